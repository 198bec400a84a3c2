/- The reference's steps: gone, allRead, may, CheckState, OverOf. -/
import Derived.Test.YtjgmbgfcffnanabSs7
namespace Go.Proofs.Ytjgmbgfcffnanab
open Go.RowKit

theorem gone_ref {p : Plan} {s : StT} (v : Valid p s) {n k : Nat} (hn : n < nT p) (hk : k < mS p) : goneB p s n k = if prt p n k then (if act p n k then bAt s.wr n k else bAt s.rd n k) else true := by
  have h1 := v.wra n k hn hk
  have h2 : act p n k = true → prt p n k = true := act_prt hk
  unfold goneB
  revert h1 h2
  generalize allB p s n = a
  cases prt p n k <;> cases act p n k <;> cases bAt s.wr n k <;> cases bAt s.rd n k <;> simp
set_option maxRecDepth 100000 in
set_option maxHeartbeats 1000000 in
theorem R_gone_fn (p : Plan) (s : StT) (n k : Nat) (v : Valid p s) (hn : n < nT p) (hk : k < mS p) : Fn (Cfg.mk Try.prog (ttAt ttl) ttl_ok.ok mixd) 94 [planV p, stV s, IV.int (n : Int), IV.int (k : Int)] (IV.bool (goneB p s n k)) := by
  obtain ⟨hm, hm1, hm4, hn8, hall⟩ := plan_m v.plan
  obtain ⟨ht, hok⟩ := hall n hn
  have e1 := prt_at (p := p) (n := n) hk
  have e2 := act_at (p := p) (n := n) hk
  have e3 := v.shp.rd hn
  have e4 := v.shp.wr hn
  have e5 := v.shp.rdk hn hk
  have e6 := v.shp.wrk hn hk
  have hg := gone_ref v hn hk
  refine Fn.of_wp _ Try.func94 rfl (by kernel_rfl) Try.ntmps94 rfl ?_
  intro F hD hG
  ((repeat apply WP.seq); apply WP.lreg; refine ALK.n (opn_box (eB rfl) Cs.a rfl) rfl ?_; refine ALK.n (opn_box (eB rfl) Cs.a rfl) rfl ?_; refine nA rfl rfl ?_; refine ALK.nil ?_; try show WP _ _ _ _ _ _)
  ((repeat apply WP.seq); apply WP.lreg; (first | refine ALK.n (opn_load rfl (eB rfl) rfl) rfl ?_ | refine ALK.r OpR.ld rfl ?_); refine nM rfl rfl ?_; refine ALK.n (opn_call (ref_PartOf_fn p (mS p) n (txN p n) hm hm1 hm4 (by omega) ht hok) (Evs.cons Ev.a (Evs.cons Ev.a Evs.nil))) rfl ?_; refine nM rfl rfl ?_; refine ALK.n OpN.ix rfl ?_; (first | refine ALK.n (opn_load rfl (eB rfl) rfl) rfl ?_ | refine ALK.r OpR.ld rfl ?_); refine ALK.n (opn_not (eB rfl)) rfl ?_; refine ALK.nil ?_; try show WP _ _ _ _ _ _)
  ((repeat apply WP.seq); refine WP.cond rfl (fun h => ?_) (fun h => ?_))
  · have h1 : prt p n k = false := by simpa using h
    rw [h1] at hg
    have hr : goneB p s n k = true := hg
    ((repeat apply WP.seq); apply WP.lreg; refine nA rfl rfl ?_; refine ALK.nil ?_; try show WP _ _ _ _ _ _)
    ((repeat apply WP.seq); refine WP.ret ?_; first | exact RetOk.one Try.results94 ResV.a | exact RetOk.tup Try.results94 rfl ResVs.a)
  (refine WP.skip ?_; show WP _ _ _ _ _ _)
  have h1 : prt p n k = true := by simpa using h
  rw [if_pos h1] at hg
  ((repeat apply WP.seq); apply WP.lreg; (first | refine ALK.n (opn_load rfl (eB rfl) rfl) rfl ?_ | refine ALK.r OpR.ld rfl ?_); refine nM rfl rfl ?_; refine ALK.n (opn_call (ref_ActiveOf_fn p (mS p) n (txN p n) hm hm1 hm4 (by omega) ht hok) (Evs.cons Ev.a (Evs.cons Ev.a Evs.nil))) rfl ?_; refine nM rfl rfl ?_; refine ALK.n OpN.ix rfl ?_; (first | refine ALK.n (opn_load rfl (eB rfl) rfl) rfl ?_ | refine ALK.r OpR.ld rfl ?_); refine ALK.nil ?_; try show WP _ _ _ _ _ _)
  ((repeat apply WP.seq); refine WP.cond rfl (fun h => ?_) (fun h => ?_))
  · rw [if_pos h] at hg
    ((repeat apply WP.seq); apply WP.lreg; (first | refine ALK.n (opn_field (o := 2) rfl (eB rfl)) rfl ?_ | refine ALK.n (opn_fieldOff (o := 2) rfl (eB rfl)) rfl ?_); (first | refine ALK.n (opn_load rfl (eB rfl) rfl) rfl ?_ | refine ALK.r OpR.ld rfl ?_); refine nM rfl rfl ?_; refine ALK.n OpN.ix rfl ?_; (first | refine ALK.n (opn_load rfl (eB rfl) rfl) rfl ?_ | refine ALK.r OpR.ld rfl ?_); refine nM rfl rfl ?_; refine ALK.n OpN.ix rfl ?_; (first | refine ALK.n (opn_load rfl (eB rfl) rfl) rfl ?_ | refine ALK.r OpR.ld rfl ?_); refine nA rfl rfl ?_; refine ALK.nil ?_; try show WP _ _ _ _ _ _)
    rw [hg]
    ((repeat apply WP.seq); refine WP.ret ?_; first | exact RetOk.one Try.results94 ResV.a | exact RetOk.tup Try.results94 rfl ResVs.a)
  (refine WP.skip ?_; show WP _ _ _ _ _ _)
  rw [if_neg (by rw [h]; simp)] at hg
  ((repeat apply WP.seq); apply WP.lreg; (first | refine ALK.n (opn_field (o := 1) rfl (eB rfl)) rfl ?_ | refine ALK.n (opn_fieldOff (o := 1) rfl (eB rfl)) rfl ?_); (first | refine ALK.n (opn_load rfl (eB rfl) rfl) rfl ?_ | refine ALK.r OpR.ld rfl ?_); refine nM rfl rfl ?_; refine ALK.n OpN.ix rfl ?_; (first | refine ALK.n (opn_load rfl (eB rfl) rfl) rfl ?_ | refine ALK.r OpR.ld rfl ?_); refine nM rfl rfl ?_; refine ALK.n OpN.ix rfl ?_; (first | refine ALK.n (opn_load rfl (eB rfl) rfl) rfl ?_ | refine ALK.r OpR.ld rfl ?_); refine nA rfl rfl ?_; refine ALK.nil ?_; try show WP _ _ _ _ _ _)
  rw [hg]
  ((repeat apply WP.seq); refine WP.ret ?_; first | exact RetOk.one Try.results94 ResV.a | exact RetOk.tup Try.results94 rfl ResVs.a)
set_option maxRecDepth 100000 in
set_option maxHeartbeats 1000000 in
theorem R_allRead_fn (p : Plan) (s : StT) (n : Nat) (hp : checkPlan p = 0) (hn : n < nT p) (l1 : s.rd.length = nT p) (l2 : (s.rd.getD n []).length = mS p) : Fn (Cfg.mk Try.prog (ttAt ttl) ttl_ok.ok mixd) 91 [planV p, stV s, IV.int (n : Int)] (IV.bool (allB p s n)) := by
  obtain ⟨hm, hm1, hm4, hn8, hall⟩ := plan_m hp
  obtain ⟨ht, hok⟩ := hall n hn
  have e3 : s.rd[n]? = some (s.rd.getD n []) := getD_of_lt [] (by omega)
  refine Fn.of_wp _ Try.func91 rfl (by kernel_rfl) Try.ntmps91 rfl ?_
  intro F hD hG
  ((repeat apply WP.seq); apply WP.lreg; refine ALK.n (opn_box (eB rfl) Cs.a rfl) rfl ?_; refine ALK.n (opn_box (eB rfl) Cs.a rfl) rfl ?_; refine nA rfl rfl ?_; refine ALK.nil ?_; try show WP _ _ _ _ _ _)
  ((repeat apply WP.seq); apply WP.lreg; (first | refine ALK.n (opn_load rfl (eB rfl) rfl) rfl ?_ | refine ALK.r OpR.ld rfl ?_); refine nM rfl rfl ?_; refine ALK.n (opn_call (ref_PartOf_fn p (mS p) n (txN p n) hm hm1 hm4 (by omega) ht hok) (Evs.cons Ev.a (Evs.cons Ev.a Evs.nil))) rfl ?_; refine nA rfl rfl ?_; refine ALK.nil ?_; try show WP _ _ _ _ _ _)
  ((repeat apply WP.seq); apply WP.lreg; refine nA rfl rfl ?_; refine ALK.nil ?_; try show WP _ _ _ _ _ _)
  ((repeat apply WP.seq); apply WP.block)
  refine WP.loop (fun k : Nat => ⟨[(8, .im (IV.int k)), (7, .im (boolsV (partL (mS p) (txN p n)))), (2, .im (IV.int n)), (3, .im (IV.ptr (cP p))), (4, .im (IV.ptr (cSt s)))], [], 0⟩) (fun k => k ≤ mS p ∧ ∀ j, j < k → prt p n j = true → bAt s.rd n j = true) (fun k => mS p - k) 0 ⟨Nat.zero_le _, fun j hj => by omega⟩ (Shift.sub [] rfl SubE.a SubH.nil) ?_
  rintro k ⟨hk, hf⟩
  ((repeat apply WP.seq); apply WP.lreg; refine nM rfl rfl ?_; (first | refine ALK.n (opn_field (o := 0) rfl (eB rfl)) rfl ?_ | refine ALK.n (opn_fieldOff (o := 0) rfl (eB rfl)) rfl ?_); (first | refine ALK.n (opn_load rfl (eB rfl) rfl) rfl ?_ | refine ALK.r OpR.ld rfl ?_); refine ALK.n OpN.cm rfl ?_; refine ALK.nil ?_; try show WP _ _ _ _ _ _)
  ((repeat apply WP.seq); refine WP.cond rfl (fun h => ?_) (fun h => ?_))
  · (refine WP.skip ?_; show WP _ _ _ _ _ _)
    have hlt : k < mS p := by simp at h; omega
    have e1 := prt_at (p := p) (n := n) hlt
    have e5 : (s.rd.getD n [])[k]? = some (bAt s.rd n k) := getD_of_lt false (by omega)
    ((repeat apply WP.seq); apply WP.block)
    ((repeat apply WP.seq); apply WP.lreg; refine nM rfl rfl ?_; refine nM rfl rfl ?_; refine ALK.n OpN.ix rfl ?_; (first | refine ALK.n (opn_load rfl (eB rfl) rfl) rfl ?_ | refine ALK.r OpR.ld rfl ?_); refine nM rfl rfl ?_; (first | refine ALK.g (fun hb => opn_field (o := 1) rfl (eB rfl)) rfl rfl rfl ?_ | refine ALK.g (fun hb => opn_fieldOff (o := 1) rfl (eB rfl)) rfl rfl rfl ?_); (first | refine ALK.g (fun hb => opn_load rfl (eC rfl hb) rfl) rfl rfl rfl ?_ | refine ALK.rg (fun hb => opr_load rfl (eC rfl hb) rfl rfl) rfl rfl rfl ?_ | refine ALK.rg (fun hb => opr_loadRow rfl rfl (eC rfl hb) rfl (by assumption) rfl) rfl rfl rfl ?_ | refine ALK.rg (fun hb => opr_loadK0 rfl (eC rfl hb) rfl (by assumption) rfl) rfl rfl rfl ?_ | refine ALK.rg (fun hb => opr_loadK rfl (eC rfl hb) rfl (by assumption) rfl) rfl rfl rfl ?_); refine gM rfl rfl rfl rfl ?_; (first | refine ALK.g (fun hb => opn_index rfl (eC rfl hb) (eC rfl hb) (by omega) (by assumption)) rfl rfl rfl ?_ | refine ALK.g (fun hb => opn_indexRow1 rfl (eC rfl hb) (eC rfl hb) (by omega) (by omega)) rfl rfl rfl ?_ | refine ALK.g (fun hb => opn_indexRow rfl (eC rfl hb) (eC rfl hb) (by omega) (by omega)) rfl rfl rfl ?_ | refine ALK.g (fun hb => opn_indexArr rfl (eC rfl hb) (eC rfl hb) (by omega) (by omega)) rfl rfl rfl ?_ | refine ALK.g (fun hb => opn_indexArrI rfl (eC rfl hb) (eC rfl hb) (by omega) (by omega)) rfl rfl rfl ?_); (first | refine ALK.g (fun hb => opn_load rfl (eC rfl hb) rfl) rfl rfl rfl ?_ | refine ALK.rg (fun hb => opr_load rfl (eC rfl hb) rfl rfl) rfl rfl rfl ?_ | refine ALK.rg (fun hb => opr_loadRow rfl rfl (eC rfl hb) rfl (by assumption) rfl) rfl rfl rfl ?_ | refine ALK.rg (fun hb => opr_loadK0 rfl (eC rfl hb) rfl (by assumption) rfl) rfl rfl rfl ?_ | refine ALK.rg (fun hb => opr_loadK rfl (eC rfl hb) rfl (by assumption) rfl) rfl rfl rfl ?_); refine gM rfl rfl rfl rfl ?_; (first | refine ALK.g (fun hb => opn_index rfl (eC rfl hb) (eC rfl hb) (by omega) (by assumption)) rfl rfl rfl ?_ | refine ALK.g (fun hb => opn_indexRow1 rfl (eC rfl hb) (eC rfl hb) (by omega) (by omega)) rfl rfl rfl ?_ | refine ALK.g (fun hb => opn_indexRow rfl (eC rfl hb) (eC rfl hb) (by omega) (by omega)) rfl rfl rfl ?_ | refine ALK.g (fun hb => opn_indexArr rfl (eC rfl hb) (eC rfl hb) (by omega) (by omega)) rfl rfl rfl ?_ | refine ALK.g (fun hb => opn_indexArrI rfl (eC rfl hb) (eC rfl hb) (by omega) (by omega)) rfl rfl rfl ?_); (first | refine ALK.g (fun hb => opn_load rfl (eC rfl hb) rfl) rfl rfl rfl ?_ | refine ALK.rg (fun hb => opr_load rfl (eC rfl hb) rfl rfl) rfl rfl rfl ?_ | refine ALK.rg (fun hb => opr_loadRow rfl rfl (eC rfl hb) rfl (by assumption) rfl) rfl rfl rfl ?_ | refine ALK.rg (fun hb => opr_loadK0 rfl (eC rfl hb) rfl (by assumption) rfl) rfl rfl rfl ?_ | refine ALK.rg (fun hb => opr_loadK rfl (eC rfl hb) rfl (by assumption) rfl) rfl rfl rfl ?_); refine ALK.g (fun hb => opn_not (eC rfl hb)) rfl rfl rfl ?_; refine ALK.n (opn_pick_and (eB rfl) rfl (fun hb2 => by first | exact hb2 | (rw [hb, hb2]; rfl) | simp_all [gd]) rfl) rfl ?_; refine ALK.nil ?_; try show WP _ _ _ _ _ _)
    ((repeat apply WP.seq); refine WP.cond rfl (fun h => ?_) (fun h => ?_))
    · ((repeat apply WP.seq); apply WP.lreg; refine nA rfl rfl ?_; refine ALK.nil ?_; try show WP _ _ _ _ _ _)
      have hr : allB p s n = false := by
        cases ha : allB p s n with
        | false => rfl
        | true =>
          rw [Bool.and_eq_true, Bool.not_eq_true'] at h
          have := allB_iff.1 ha k hlt h.1
          rw [h.2] at this; cases this
      ((repeat apply WP.seq); refine WP.ret ?_; first | exact RetOk.one Try.results91 ResV.a | exact RetOk.tup Try.results91 rfl ResVs.a)
    (refine WP.skip ?_; show WP _ _ _ _ _ _)
    ((repeat apply WP.seq); apply WP.lreg; refine nM rfl rfl ?_; refine ALK.n OpN.ar rfl ?_; refine nA rfl rfl ?_; refine ALK.nil ?_; try show WP _ _ _ _ _ _)
    show ∃ _, _ ∧ _ ∧ _
    refine ⟨k + 1, ⟨by omega, fun j hj hpj => ?_⟩, by omega, (Shift.sub [] rfl SubE.a SubH.nil)⟩
    by_cases e : j = k
    · subst e
      rw [hpj] at h
      simpa using h
    · exact hf j (by omega) hpj
  · ((repeat apply WP.seq); refine WP.exit ?_; show WP _ _ _ _ _ _)
    have hk2 : k = mS p := by simp at h; omega
    subst hk2
    ((repeat apply WP.seq); apply WP.lreg; refine nA rfl rfl ?_; refine ALK.nil ?_; try show WP _ _ _ _ _ _)
    have hr : allB p s n = true := allB_iff.2 hf
    ((repeat apply WP.seq); refine WP.ret ?_; first | exact RetOk.one Try.results91 ResV.a | exact RetOk.tup Try.results91 rfl ResVs.a)
set_option maxRecDepth 100000 in
set_option maxHeartbeats 1000000 in
theorem R_may_fn (p : Plan) (s : StT) (kind : Int) (n k : Nat) (v : Valid p s) (hkd : kind = 1 ∨ kind = 2) (hn : n < nT p) (hk : k < mS p) : Fn (Cfg.mk Try.prog (ttAt ttl) ttl_ok.ok mixd) 96 [planV p, stV s, IV.agg [IV.int kind, IV.int (n : Int), IV.int (k : Int)]] (IV.bool (mayB p s kind n k)) := by
  obtain ⟨hm, hm1, hm4, hn8, hall⟩ := plan_m v.plan
  obtain ⟨ht, hok⟩ := hall n hn
  have e1 := prt_at (p := p) (n := n) hk
  have e2 := act_at (p := p) (n := n) hk
  have e3 := v.shp.rd hn
  have e4 := v.shp.wr hn
  have e5 := v.shp.rdk hn hk
  have e6 := v.shp.wrk hn hk
  refine Fn.of_wp _ Try.func96 rfl (by kernel_rfl) Try.ntmps96 rfl ?_
  intro F hD hG
  ((repeat apply WP.seq); apply WP.lreg; refine ALK.n (opn_box (eB rfl) Cs.a rfl) rfl ?_; refine ALK.n (opn_box (eB rfl) Cs.a rfl) rfl ?_; refine ALK.n (opn_box (eB rfl) Cs.a rfl) rfl ?_; refine nA rfl rfl ?_; refine ALK.nil ?_; try show WP _ _ _ _ _ _)
  ((repeat apply WP.seq); apply WP.lreg; (first | refine ALK.n (opn_field (o := 0) rfl (eB rfl)) rfl ?_ | refine ALK.n (opn_fieldOff (o := 0) rfl (eB rfl)) rfl ?_); (first | refine ALK.n (opn_load rfl (eB rfl) rfl) rfl ?_ | refine ALK.r OpR.ld rfl ?_); refine ALK.n OpN.cm rfl ?_; refine ALK.nil ?_; try show WP _ _ _ _ _ _)
  ((repeat apply WP.seq); refine WP.cond rfl (fun h => ?_) (fun h => ?_))
  · have h2 : kind = 2 := by simpa using h
    have hr : mayB p s kind n k = (act p n k && !bAt s.wr n k && allB p s n) := by unfold mayB; rw [if_neg (by omega), Bool.and_assoc]
    ((repeat apply WP.seq); apply WP.ldraw; (first | refine ALK.n (opn_load rfl (eB rfl) rfl) rfl ?_ | refine ALK.r OpR.ld rfl ?_); (first | refine ALK.n (opn_field (o := 1) rfl (eB rfl)) rfl ?_ | refine ALK.n (opn_fieldOff (o := 1) rfl (eB rfl)) rfl ?_); (first | refine ALK.n (opn_load rfl (eB rfl) rfl) rfl ?_ | refine ALK.r OpR.ld rfl ?_); refine ALK.n (opn_call (ref_ActiveOf_fn p (mS p) n (txN p n) hm hm1 hm4 (by omega) ht hok) (Evs.cons Ev.a (Evs.cons Ev.a Evs.nil))) rfl ?_; (first | refine ALK.n (opn_field (o := 2) rfl (eB rfl)) rfl ?_ | refine ALK.n (opn_fieldOff (o := 2) rfl (eB rfl)) rfl ?_); (first | refine ALK.n (opn_load rfl (eB rfl) rfl) rfl ?_ | refine ALK.r OpR.ld rfl ?_); refine ALK.n OpN.ix rfl ?_; (first | refine ALK.n (opn_load rfl (eB rfl) rfl) rfl ?_ | refine ALK.r OpR.ld rfl ?_); refine nM rfl rfl ?_; (first | refine ALK.g (fun hb => opn_field (o := 2) rfl (eB rfl)) rfl rfl rfl ?_ | refine ALK.g (fun hb => opn_fieldOff (o := 2) rfl (eB rfl)) rfl rfl rfl ?_); (first | refine ALK.g (fun hb => opn_load rfl (eC rfl hb) rfl) rfl rfl rfl ?_ | refine ALK.rg (fun hb => opr_load rfl (eC rfl hb) rfl rfl) rfl rfl rfl ?_ | refine ALK.rg (fun hb => opr_loadRow rfl rfl (eC rfl hb) rfl (by assumption) rfl) rfl rfl rfl ?_ | refine ALK.rg (fun hb => opr_loadK0 rfl (eC rfl hb) rfl (by assumption) rfl) rfl rfl rfl ?_ | refine ALK.rg (fun hb => opr_loadK rfl (eC rfl hb) rfl (by assumption) rfl) rfl rfl rfl ?_); (first | refine ALK.g (fun hb => opn_field (o := 1) rfl (eB rfl)) rfl rfl rfl ?_ | refine ALK.g (fun hb => opn_fieldOff (o := 1) rfl (eB rfl)) rfl rfl rfl ?_); (first | refine ALK.g (fun hb => opn_load rfl (eC rfl hb) rfl) rfl rfl rfl ?_ | refine ALK.rg (fun hb => opr_load rfl (eC rfl hb) rfl rfl) rfl rfl rfl ?_ | refine ALK.rg (fun hb => opr_loadRow rfl rfl (eC rfl hb) rfl (by assumption) rfl) rfl rfl rfl ?_ | refine ALK.rg (fun hb => opr_loadK0 rfl (eC rfl hb) rfl (by assumption) rfl) rfl rfl rfl ?_ | refine ALK.rg (fun hb => opr_loadK rfl (eC rfl hb) rfl (by assumption) rfl) rfl rfl rfl ?_); (first | refine ALK.g (fun hb => opn_index rfl (eC rfl hb) (eC rfl hb) (by omega) (by assumption)) rfl rfl rfl ?_ | refine ALK.g (fun hb => opn_indexRow1 rfl (eC rfl hb) (eC rfl hb) (by omega) (by omega)) rfl rfl rfl ?_ | refine ALK.g (fun hb => opn_indexRow rfl (eC rfl hb) (eC rfl hb) (by omega) (by omega)) rfl rfl rfl ?_ | refine ALK.g (fun hb => opn_indexArr rfl (eC rfl hb) (eC rfl hb) (by omega) (by omega)) rfl rfl rfl ?_ | refine ALK.g (fun hb => opn_indexArrI rfl (eC rfl hb) (eC rfl hb) (by omega) (by omega)) rfl rfl rfl ?_); (first | refine ALK.g (fun hb => opn_load rfl (eC rfl hb) rfl) rfl rfl rfl ?_ | refine ALK.rg (fun hb => opr_load rfl (eC rfl hb) rfl rfl) rfl rfl rfl ?_ | refine ALK.rg (fun hb => opr_loadRow rfl rfl (eC rfl hb) rfl (by assumption) rfl) rfl rfl rfl ?_ | refine ALK.rg (fun hb => opr_loadK0 rfl (eC rfl hb) rfl (by assumption) rfl) rfl rfl rfl ?_ | refine ALK.rg (fun hb => opr_loadK rfl (eC rfl hb) rfl (by assumption) rfl) rfl rfl rfl ?_); (first | refine ALK.g (fun hb => opn_field (o := 2) rfl (eB rfl)) rfl rfl rfl ?_ | refine ALK.g (fun hb => opn_fieldOff (o := 2) rfl (eB rfl)) rfl rfl rfl ?_); (first | refine ALK.g (fun hb => opn_load rfl (eC rfl hb) rfl) rfl rfl rfl ?_ | refine ALK.rg (fun hb => opr_load rfl (eC rfl hb) rfl rfl) rfl rfl rfl ?_ | refine ALK.rg (fun hb => opr_loadRow rfl rfl (eC rfl hb) rfl (by assumption) rfl) rfl rfl rfl ?_ | refine ALK.rg (fun hb => opr_loadK0 rfl (eC rfl hb) rfl (by assumption) rfl) rfl rfl rfl ?_ | refine ALK.rg (fun hb => opr_loadK rfl (eC rfl hb) rfl (by assumption) rfl) rfl rfl rfl ?_); (first | refine ALK.g (fun hb => opn_index rfl (eC rfl hb) (eC rfl hb) (by omega) (by assumption)) rfl rfl rfl ?_ | refine ALK.g (fun hb => opn_indexRow1 rfl (eC rfl hb) (eC rfl hb) (by omega) (by omega)) rfl rfl rfl ?_ | refine ALK.g (fun hb => opn_indexRow rfl (eC rfl hb) (eC rfl hb) (by omega) (by omega)) rfl rfl rfl ?_ | refine ALK.g (fun hb => opn_indexArr rfl (eC rfl hb) (eC rfl hb) (by omega) (by omega)) rfl rfl rfl ?_ | refine ALK.g (fun hb => opn_indexArrI rfl (eC rfl hb) (eC rfl hb) (by omega) (by omega)) rfl rfl rfl ?_); (first | refine ALK.g (fun hb => opn_load rfl (eC rfl hb) rfl) rfl rfl rfl ?_ | refine ALK.rg (fun hb => opr_load rfl (eC rfl hb) rfl rfl) rfl rfl rfl ?_ | refine ALK.rg (fun hb => opr_loadRow rfl rfl (eC rfl hb) rfl (by assumption) rfl) rfl rfl rfl ?_ | refine ALK.rg (fun hb => opr_loadK0 rfl (eC rfl hb) rfl (by assumption) rfl) rfl rfl rfl ?_ | refine ALK.rg (fun hb => opr_loadK rfl (eC rfl hb) rfl (by assumption) rfl) rfl rfl rfl ?_); refine ALK.g (fun hb => opn_not (eC rfl hb)) rfl rfl rfl ?_; refine ALK.n (opn_pick_and (eB rfl) rfl (fun hb2 => by first | exact hb2 | (rw [hb, hb2]; rfl) | simp_all [gd]) rfl) rfl ?_; refine nM rfl rfl ?_; (first | refine ALK.g (fun hb => opn_load rfl (eB rfl) rfl) rfl rfl rfl ?_ | refine ALK.rg (fun hb => opr_load rfl (eB rfl) rfl rfl) rfl rfl rfl ?_ | refine ALK.rg (fun hb => opr_loadRow rfl rfl (eB rfl) rfl (by assumption) rfl) rfl rfl rfl ?_ | refine ALK.rg (fun hb => opr_loadK0 rfl (eB rfl) rfl (by assumption) rfl) rfl rfl rfl ?_ | refine ALK.rg (fun hb => opr_loadK rfl (eB rfl) rfl (by assumption) rfl) rfl rfl rfl ?_); (first | refine ALK.g (fun hb => opn_load rfl (eB rfl) rfl) rfl rfl rfl ?_ | refine ALK.rg (fun hb => opr_load rfl (eB rfl) rfl rfl) rfl rfl rfl ?_ | refine ALK.rg (fun hb => opr_loadRow rfl rfl (eB rfl) rfl (by assumption) rfl) rfl rfl rfl ?_ | refine ALK.rg (fun hb => opr_loadK0 rfl (eB rfl) rfl (by assumption) rfl) rfl rfl rfl ?_ | refine ALK.rg (fun hb => opr_loadK rfl (eB rfl) rfl (by assumption) rfl) rfl rfl rfl ?_); (first | refine ALK.g (fun hb => opn_field (o := 1) rfl (eB rfl)) rfl rfl rfl ?_ | refine ALK.g (fun hb => opn_fieldOff (o := 1) rfl (eB rfl)) rfl rfl rfl ?_); (first | refine ALK.g (fun hb => opn_load rfl (eC rfl hb) rfl) rfl rfl rfl ?_ | refine ALK.rg (fun hb => opr_load rfl (eC rfl hb) rfl rfl) rfl rfl rfl ?_ | refine ALK.rg (fun hb => opr_loadRow rfl rfl (eC rfl hb) rfl (by assumption) rfl) rfl rfl rfl ?_ | refine ALK.rg (fun hb => opr_loadK0 rfl (eC rfl hb) rfl (by assumption) rfl) rfl rfl rfl ?_ | refine ALK.rg (fun hb => opr_loadK rfl (eC rfl hb) rfl (by assumption) rfl) rfl rfl rfl ?_); refine ALK.g (fun hb => opn_call (R_allRead_fn p s n v.plan hn v.rdl (v.rdr n hn)) (Evs.cons Ev.a (Evs.cons Ev.a (Evs.cons Ev.a Evs.nil)))) rfl rfl rfl ?_; refine ALK.n (opn_pick_and (eB rfl) rfl (fun hb2 => by first | exact hb2 | (rw [hb, hb2]; rfl) | simp_all [gd]) rfl) rfl ?_; refine nA rfl rfl ?_; refine ALK.nilD (by kernel_rfl) ?_; try show WP _ _ _ _ _ _)
    ((repeat apply WP.seq); refine WP.ret ?_; first | exact RetOk.one Try.results96 ResV.a | exact RetOk.tup Try.results96 rfl ResVs.a)
  (refine WP.skip ?_; show WP _ _ _ _ _ _)
  have h1 : kind = 1 := by rcases hkd with h1 | h1; exact h1; (subst h1; simp at h)
  have hr : mayB p s kind n k = (prt p n k && (!bAt s.rd n k && freeB p s n k)) := by unfold mayB; rw [if_pos h1]
  clear h
  ((repeat apply WP.seq); apply WP.ldraw; (first | refine ALK.n (opn_load rfl (eB rfl) rfl) rfl ?_ | refine ALK.r OpR.ld rfl ?_); (first | refine ALK.n (opn_field (o := 1) rfl (eB rfl)) rfl ?_ | refine ALK.n (opn_fieldOff (o := 1) rfl (eB rfl)) rfl ?_); (first | refine ALK.n (opn_load rfl (eB rfl) rfl) rfl ?_ | refine ALK.r OpR.ld rfl ?_); refine ALK.n (opn_call (ref_PartOf_fn p (mS p) n (txN p n) hm hm1 hm4 (by omega) ht hok) (Evs.cons Ev.a (Evs.cons Ev.a Evs.nil))) rfl ?_; (first | refine ALK.n (opn_field (o := 2) rfl (eB rfl)) rfl ?_ | refine ALK.n (opn_fieldOff (o := 2) rfl (eB rfl)) rfl ?_); (first | refine ALK.n (opn_load rfl (eB rfl) rfl) rfl ?_ | refine ALK.r OpR.ld rfl ?_); refine ALK.n OpN.ix rfl ?_; (first | refine ALK.n (opn_load rfl (eB rfl) rfl) rfl ?_ | refine ALK.r OpR.ld rfl ?_); refine ALK.n (opn_not (eB rfl)) rfl ?_; refine nM rfl rfl ?_; (first | refine ALK.g (fun hb => opn_field (o := 1) rfl (eB rfl)) rfl rfl rfl ?_ | refine ALK.g (fun hb => opn_fieldOff (o := 1) rfl (eB rfl)) rfl rfl rfl ?_); (first | refine ALK.g (fun hb => opn_load rfl (eC rfl hb) rfl) rfl rfl rfl ?_ | refine ALK.rg (fun hb => opr_load rfl (eC rfl hb) rfl rfl) rfl rfl rfl ?_ | refine ALK.rg (fun hb => opr_loadRow rfl rfl (eC rfl hb) rfl (by assumption) rfl) rfl rfl rfl ?_ | refine ALK.rg (fun hb => opr_loadK0 rfl (eC rfl hb) rfl (by assumption) rfl) rfl rfl rfl ?_ | refine ALK.rg (fun hb => opr_loadK rfl (eC rfl hb) rfl (by assumption) rfl) rfl rfl rfl ?_); (first | refine ALK.g (fun hb => opn_field (o := 1) rfl (eB rfl)) rfl rfl rfl ?_ | refine ALK.g (fun hb => opn_fieldOff (o := 1) rfl (eB rfl)) rfl rfl rfl ?_); (first | refine ALK.g (fun hb => opn_load rfl (eC rfl hb) rfl) rfl rfl rfl ?_ | refine ALK.rg (fun hb => opr_load rfl (eC rfl hb) rfl rfl) rfl rfl rfl ?_ | refine ALK.rg (fun hb => opr_loadRow rfl rfl (eC rfl hb) rfl (by assumption) rfl) rfl rfl rfl ?_ | refine ALK.rg (fun hb => opr_loadK0 rfl (eC rfl hb) rfl (by assumption) rfl) rfl rfl rfl ?_ | refine ALK.rg (fun hb => opr_loadK rfl (eC rfl hb) rfl (by assumption) rfl) rfl rfl rfl ?_); (first | refine ALK.g (fun hb => opn_index rfl (eC rfl hb) (eC rfl hb) (by omega) (by assumption)) rfl rfl rfl ?_ | refine ALK.g (fun hb => opn_indexRow1 rfl (eC rfl hb) (eC rfl hb) (by omega) (by omega)) rfl rfl rfl ?_ | refine ALK.g (fun hb => opn_indexRow rfl (eC rfl hb) (eC rfl hb) (by omega) (by omega)) rfl rfl rfl ?_ | refine ALK.g (fun hb => opn_indexArr rfl (eC rfl hb) (eC rfl hb) (by omega) (by omega)) rfl rfl rfl ?_ | refine ALK.g (fun hb => opn_indexArrI rfl (eC rfl hb) (eC rfl hb) (by omega) (by omega)) rfl rfl rfl ?_); (first | refine ALK.g (fun hb => opn_load rfl (eC rfl hb) rfl) rfl rfl rfl ?_ | refine ALK.rg (fun hb => opr_load rfl (eC rfl hb) rfl rfl) rfl rfl rfl ?_ | refine ALK.rg (fun hb => opr_loadRow rfl rfl (eC rfl hb) rfl (by assumption) rfl) rfl rfl rfl ?_ | refine ALK.rg (fun hb => opr_loadK0 rfl (eC rfl hb) rfl (by assumption) rfl) rfl rfl rfl ?_ | refine ALK.rg (fun hb => opr_loadK rfl (eC rfl hb) rfl (by assumption) rfl) rfl rfl rfl ?_); (first | refine ALK.g (fun hb => opn_field (o := 2) rfl (eB rfl)) rfl rfl rfl ?_ | refine ALK.g (fun hb => opn_fieldOff (o := 2) rfl (eB rfl)) rfl rfl rfl ?_); (first | refine ALK.g (fun hb => opn_load rfl (eC rfl hb) rfl) rfl rfl rfl ?_ | refine ALK.rg (fun hb => opr_load rfl (eC rfl hb) rfl rfl) rfl rfl rfl ?_ | refine ALK.rg (fun hb => opr_loadRow rfl rfl (eC rfl hb) rfl (by assumption) rfl) rfl rfl rfl ?_ | refine ALK.rg (fun hb => opr_loadK0 rfl (eC rfl hb) rfl (by assumption) rfl) rfl rfl rfl ?_ | refine ALK.rg (fun hb => opr_loadK rfl (eC rfl hb) rfl (by assumption) rfl) rfl rfl rfl ?_); (first | refine ALK.g (fun hb => opn_index rfl (eC rfl hb) (eC rfl hb) (by omega) (by assumption)) rfl rfl rfl ?_ | refine ALK.g (fun hb => opn_indexRow1 rfl (eC rfl hb) (eC rfl hb) (by omega) (by omega)) rfl rfl rfl ?_ | refine ALK.g (fun hb => opn_indexRow rfl (eC rfl hb) (eC rfl hb) (by omega) (by omega)) rfl rfl rfl ?_ | refine ALK.g (fun hb => opn_indexArr rfl (eC rfl hb) (eC rfl hb) (by omega) (by omega)) rfl rfl rfl ?_ | refine ALK.g (fun hb => opn_indexArrI rfl (eC rfl hb) (eC rfl hb) (by omega) (by omega)) rfl rfl rfl ?_); (first | refine ALK.g (fun hb => opn_load rfl (eC rfl hb) rfl) rfl rfl rfl ?_ | refine ALK.rg (fun hb => opr_load rfl (eC rfl hb) rfl rfl) rfl rfl rfl ?_ | refine ALK.rg (fun hb => opr_loadRow rfl rfl (eC rfl hb) rfl (by assumption) rfl) rfl rfl rfl ?_ | refine ALK.rg (fun hb => opr_loadK0 rfl (eC rfl hb) rfl (by assumption) rfl) rfl rfl rfl ?_ | refine ALK.rg (fun hb => opr_loadK rfl (eC rfl hb) rfl (by assumption) rfl) rfl rfl rfl ?_); refine ALK.n (opn_pick_or (eB rfl) rfl rfl (fun hb2 => by first | (rw [hb2]; rfl) | (rw [hb, hb2]; rfl) | simp_all [gd])) rfl ?_; refine ALK.nilD (by kernel_rfl) ?_; try show WP _ _ _ _ _ _)
  ((repeat apply WP.seq); refine WP.cond rfl (fun h => ?_) (fun h => ?_))
  · ((repeat apply WP.seq); apply WP.lreg; refine nA rfl rfl ?_; refine ALK.nil ?_; try show WP _ _ _ _ _ _)
    have hr2 : mayB p s kind n k = false := by
      rw [hr]; revert h
      generalize freeB p s n k = f
      cases prt p n k <;> cases bAt s.rd n k <;> simp
    ((repeat apply WP.seq); refine WP.ret ?_; first | exact RetOk.one Try.results96 ResV.a | exact RetOk.tup Try.results96 rfl ResVs.a)
  (refine WP.skip ?_; show WP _ _ _ _ _ _)
  have hr3 : mayB p s kind n k = freeB p s n k := by
    rw [hr]; revert h
    generalize freeB p s n k = f
    cases prt p n k <;> cases bAt s.rd n k <;> simp
  ((repeat apply WP.seq); apply WP.lreg; refine nA rfl rfl ?_; refine ALK.nil ?_; try show WP _ _ _ _ _ _)
  ((repeat apply WP.seq); apply WP.block)
  refine WP.loop (fun j : Nat => ⟨[(7, .im (IV.int j)), (3, .im (IV.ptr (cP p))), (4, .im (IV.ptr (cSt s))), (5, .im (IV.ptr [IV.int kind, IV.int (n : Int), IV.int (k : Int)]))], [], 0⟩) (fun j => j ≤ n ∧ ∀ i, i < j → (goneB p s i k || !byB (hereB (mS p) k) (txN p i) (txN p n)) = true) (fun j => n - j) 0 ⟨Nat.zero_le _, fun i hi => by omega⟩ (Shift.sub [] rfl SubE.a SubH.nil) ?_
  rintro j ⟨hj, hf⟩
  ((repeat apply WP.seq); apply WP.lreg; refine nM rfl rfl ?_; (first | refine ALK.n (opn_field (o := 1) rfl (eB rfl)) rfl ?_ | refine ALK.n (opn_fieldOff (o := 1) rfl (eB rfl)) rfl ?_); (first | refine ALK.n (opn_load rfl (eB rfl) rfl) rfl ?_ | refine ALK.r OpR.ld rfl ?_); refine ALK.n OpN.cm rfl ?_; refine ALK.nil ?_; try show WP _ _ _ _ _ _)
  ((repeat apply WP.seq); refine WP.cond rfl (fun h => ?_) (fun h => ?_))
  · (refine WP.skip ?_; show WP _ _ _ _ _ _)
    have hlt : j < n := by simp at h; omega
    obtain ⟨htj, hokj⟩ := hall j (by omega)
    have hcl := clash_here (m := mS p) (k := k) hokj hok
    have hg := gone_of (p := p) (s := s) (n := j) (k := k)
    ((repeat apply WP.seq); apply WP.block)
    ((repeat apply WP.seq); apply WP.ldraw; (first | refine ALK.n (opn_load rfl (eB rfl) rfl) rfl ?_ | refine ALK.r OpR.ld rfl ?_); (first | refine ALK.n (opn_load rfl (eB rfl) rfl) rfl ?_ | refine ALK.r OpR.ld rfl ?_); refine nM rfl rfl ?_; (first | refine ALK.n (opn_field (o := 2) rfl (eB rfl)) rfl ?_ | refine ALK.n (opn_fieldOff (o := 2) rfl (eB rfl)) rfl ?_); (first | refine ALK.n (opn_load rfl (eB rfl) rfl) rfl ?_ | refine ALK.r OpR.ld rfl ?_); refine ALK.n (opn_call (R_gone_fn p s j k v (by omega) hk) (Evs.cons Ev.a (Evs.cons Ev.a (Evs.cons Ev.a (Evs.cons Ev.a Evs.nil))))) rfl ?_; refine ALK.n (opn_not (eB rfl)) rfl ?_; refine nM rfl rfl ?_; (first | refine ALK.g (fun hb => opn_field (o := 1) rfl (eB rfl)) rfl rfl rfl ?_ | refine ALK.g (fun hb => opn_fieldOff (o := 1) rfl (eB rfl)) rfl rfl rfl ?_); (first | refine ALK.g (fun hb => opn_load rfl (eC rfl hb) rfl) rfl rfl rfl ?_ | refine ALK.rg (fun hb => opr_load rfl (eC rfl hb) rfl rfl) rfl rfl rfl ?_ | refine ALK.rg (fun hb => opr_loadRow rfl rfl (eC rfl hb) rfl (by assumption) rfl) rfl rfl rfl ?_ | refine ALK.rg (fun hb => opr_loadK0 rfl (eC rfl hb) rfl (by assumption) rfl) rfl rfl rfl ?_ | refine ALK.rg (fun hb => opr_loadK rfl (eC rfl hb) rfl (by assumption) rfl) rfl rfl rfl ?_); refine gM rfl rfl rfl rfl ?_; (first | refine ALK.g (fun hb => opn_index rfl (eC rfl hb) (eC rfl hb) (by omega) (by assumption)) rfl rfl rfl ?_ | refine ALK.g (fun hb => opn_indexRow1 rfl (eC rfl hb) (eC rfl hb) (by omega) (by omega)) rfl rfl rfl ?_ | refine ALK.g (fun hb => opn_indexRow rfl (eC rfl hb) (eC rfl hb) (by omega) (by omega)) rfl rfl rfl ?_ | refine ALK.g (fun hb => opn_indexArr rfl (eC rfl hb) (eC rfl hb) (by omega) (by omega)) rfl rfl rfl ?_ | refine ALK.g (fun hb => opn_indexArrI rfl (eC rfl hb) (eC rfl hb) (by omega) (by omega)) rfl rfl rfl ?_); (first | refine ALK.g (fun hb => opn_load rfl (eC rfl hb) rfl) rfl rfl rfl ?_ | refine ALK.rg (fun hb => opr_load rfl (eC rfl hb) rfl rfl) rfl rfl rfl ?_ | refine ALK.rg (fun hb => opr_loadRow rfl rfl (eC rfl hb) rfl (by assumption) rfl) rfl rfl rfl ?_ | refine ALK.rg (fun hb => opr_loadK0 rfl (eC rfl hb) rfl (by assumption) rfl) rfl rfl rfl ?_ | refine ALK.rg (fun hb => opr_loadK rfl (eC rfl hb) rfl (by assumption) rfl) rfl rfl rfl ?_); (first | refine ALK.g (fun hb => opn_field (o := 1) rfl (eB rfl)) rfl rfl rfl ?_ | refine ALK.g (fun hb => opn_fieldOff (o := 1) rfl (eB rfl)) rfl rfl rfl ?_); (first | refine ALK.g (fun hb => opn_load rfl (eC rfl hb) rfl) rfl rfl rfl ?_ | refine ALK.rg (fun hb => opr_load rfl (eC rfl hb) rfl rfl) rfl rfl rfl ?_ | refine ALK.rg (fun hb => opr_loadRow rfl rfl (eC rfl hb) rfl (by assumption) rfl) rfl rfl rfl ?_ | refine ALK.rg (fun hb => opr_loadK0 rfl (eC rfl hb) rfl (by assumption) rfl) rfl rfl rfl ?_ | refine ALK.rg (fun hb => opr_loadK rfl (eC rfl hb) rfl (by assumption) rfl) rfl rfl rfl ?_); (first | refine ALK.g (fun hb => opn_field (o := 1) rfl (eB rfl)) rfl rfl rfl ?_ | refine ALK.g (fun hb => opn_fieldOff (o := 1) rfl (eB rfl)) rfl rfl rfl ?_); (first | refine ALK.g (fun hb => opn_load rfl (eC rfl hb) rfl) rfl rfl rfl ?_ | refine ALK.rg (fun hb => opr_load rfl (eC rfl hb) rfl rfl) rfl rfl rfl ?_ | refine ALK.rg (fun hb => opr_loadRow rfl rfl (eC rfl hb) rfl (by assumption) rfl) rfl rfl rfl ?_ | refine ALK.rg (fun hb => opr_loadK0 rfl (eC rfl hb) rfl (by assumption) rfl) rfl rfl rfl ?_ | refine ALK.rg (fun hb => opr_loadK rfl (eC rfl hb) rfl (by assumption) rfl) rfl rfl rfl ?_); (first | refine ALK.g (fun hb => opn_index rfl (eC rfl hb) (eC rfl hb) (by omega) (by assumption)) rfl rfl rfl ?_ | refine ALK.g (fun hb => opn_indexRow1 rfl (eC rfl hb) (eC rfl hb) (by omega) (by omega)) rfl rfl rfl ?_ | refine ALK.g (fun hb => opn_indexRow rfl (eC rfl hb) (eC rfl hb) (by omega) (by omega)) rfl rfl rfl ?_ | refine ALK.g (fun hb => opn_indexArr rfl (eC rfl hb) (eC rfl hb) (by omega) (by omega)) rfl rfl rfl ?_ | refine ALK.g (fun hb => opn_indexArrI rfl (eC rfl hb) (eC rfl hb) (by omega) (by omega)) rfl rfl rfl ?_); (first | refine ALK.g (fun hb => opn_load rfl (eC rfl hb) rfl) rfl rfl rfl ?_ | refine ALK.rg (fun hb => opr_load rfl (eC rfl hb) rfl rfl) rfl rfl rfl ?_ | refine ALK.rg (fun hb => opr_loadRow rfl rfl (eC rfl hb) rfl (by assumption) rfl) rfl rfl rfl ?_ | refine ALK.rg (fun hb => opr_loadK0 rfl (eC rfl hb) rfl (by assumption) rfl) rfl rfl rfl ?_ | refine ALK.rg (fun hb => opr_loadK rfl (eC rfl hb) rfl (by assumption) rfl) rfl rfl rfl ?_); (first | refine ALK.g (fun hb => opn_field (o := 0) rfl (eB rfl)) rfl rfl rfl ?_ | refine ALK.g (fun hb => opn_fieldOff (o := 0) rfl (eB rfl)) rfl rfl rfl ?_); (first | refine ALK.g (fun hb => opn_load rfl (eC rfl hb) rfl) rfl rfl rfl ?_ | refine ALK.rg (fun hb => opr_load rfl (eC rfl hb) rfl rfl) rfl rfl rfl ?_ | refine ALK.rg (fun hb => opr_loadRow rfl rfl (eC rfl hb) rfl (by assumption) rfl) rfl rfl rfl ?_ | refine ALK.rg (fun hb => opr_loadK0 rfl (eC rfl hb) rfl (by assumption) rfl) rfl rfl rfl ?_ | refine ALK.rg (fun hb => opr_loadK rfl (eC rfl hb) rfl (by assumption) rfl) rfl rfl rfl ?_); (first | refine ALK.g (fun hb => opn_field (o := 2) rfl (eB rfl)) rfl rfl rfl ?_ | refine ALK.g (fun hb => opn_fieldOff (o := 2) rfl (eB rfl)) rfl rfl rfl ?_); (first | refine ALK.g (fun hb => opn_load rfl (eC rfl hb) rfl) rfl rfl rfl ?_ | refine ALK.rg (fun hb => opr_load rfl (eC rfl hb) rfl rfl) rfl rfl rfl ?_ | refine ALK.rg (fun hb => opr_loadRow rfl rfl (eC rfl hb) rfl (by assumption) rfl) rfl rfl rfl ?_ | refine ALK.rg (fun hb => opr_loadK0 rfl (eC rfl hb) rfl (by assumption) rfl) rfl rfl rfl ?_ | refine ALK.rg (fun hb => opr_loadK rfl (eC rfl hb) rfl (by assumption) rfl) rfl rfl rfl ?_); refine ALK.g (fun hb => opn_call (clash_fn (txN p j) (txN p n) p.shards k (by omega)) (Evs.cons Ev.a (Evs.cons Ev.a (Evs.cons Ev.a (Evs.cons Ev.a Evs.nil))))) rfl rfl rfl ?_; refine ALK.n (opn_pick_and (eB rfl) rfl (fun hb2 => by first | exact hb2 | (rw [hb, hb2]; rfl) | simp_all [gd]) rfl) rfl ?_; refine ALK.nilD (by kernel_rfl) ?_; try show WP _ _ _ _ _ _)
    rw [hm, ← hcl]
    ((repeat apply WP.seq); refine WP.cond rfl (fun h => ?_) (fun h => ?_))
    · ((repeat apply WP.seq); apply WP.lreg; refine nA rfl rfl ?_; refine ALK.nil ?_; try show WP _ _ _ _ _ _)
      have hr4 : mayB p s kind n k = false := by
        rw [hr3]
        rw [Bool.and_eq_true, Bool.not_eq_true'] at h
        exact freeB_at hlt h.1 h.2
      ((repeat apply WP.seq); refine WP.ret ?_; first | exact RetOk.one Try.results96 ResV.a | exact RetOk.tup Try.results96 rfl ResVs.a)
    (refine WP.skip ?_; show WP _ _ _ _ _ _)
    ((repeat apply WP.seq); apply WP.lreg; refine nM rfl rfl ?_; refine ALK.n OpN.ar rfl ?_; refine nA rfl rfl ?_; refine ALK.nil ?_; try show WP _ _ _ _ _ _)
    show ∃ _, _ ∧ _ ∧ _
    refine ⟨j + 1, ⟨by omega, fun i hi => ?_⟩, by omega, (Shift.sub [] rfl SubE.a SubH.nil)⟩
    by_cases e : i = j
    · subst e
      revert h
      generalize goneB p s i k = a
      generalize byB (hereB (mS p) k) (txN p i) (txN p n) = b
      cases a <;> cases b <;> simp
    · exact hf i (by omega)
  · ((repeat apply WP.seq); refine WP.exit ?_; show WP _ _ _ _ _ _)
    have hj2 : j = n := by simp at h; omega
    subst hj2
    ((repeat apply WP.seq); apply WP.lreg; refine nA rfl rfl ?_; refine ALK.nil ?_; try show WP _ _ _ _ _ _)
    have hr4 : mayB p s kind j k = true := by
      rw [hr3]
      unfold freeB
      rw [List.all_eq_true]
      exact fun i hi => hf i (List.mem_range.1 hi)
    ((repeat apply WP.seq); refine WP.ret ?_; first | exact RetOk.one Try.results96 ResV.a | exact RetOk.tup Try.results96 rfl ResVs.a)
theorem fineB_iff {p : Plan} {s : StT} : fineB p s = true ↔ ∀ n, n < nT p → ∀ k, k < mS p → fineAt p s n k = true := by
  unfold fineB
  simp only [List.all_eq_true, List.mem_range]
set_option maxRecDepth 100000 in
set_option maxHeartbeats 2000000 in
theorem R_CheckState_fn (p : Plan) (s : StT) (hB : TxsB p.txns) : Fn (Cfg.mk Try.prog (ttAt ttl) ttl_ok.ok mixd) 41 [planV p, stV s] (IV.int (checkState p s)) := by
  refine Fn.of_wp _ Try.func41 rfl (by kernel_rfl) Try.ntmps41 rfl ?_
  intro F hD hG
  ((repeat apply WP.seq); apply WP.lreg; refine ALK.n (opn_box (eB rfl) Cs.a rfl) rfl ?_; refine ALK.n (opn_box (eB rfl) Cs.a rfl) rfl ?_; refine nA rfl rfl ?_; refine ALK.nil ?_; try show WP _ _ _ _ _ _)
  ((repeat apply WP.seq); apply WP.lreg; (first | refine ALK.n (opn_load rfl (eB rfl) rfl) rfl ?_ | refine ALK.r OpR.ld rfl ?_); refine ALK.n (opn_call (ref_CheckPlan_fn p hB) (Evs.cons Ev.a Evs.nil)) rfl ?_; refine nA rfl rfl ?_; refine ALK.nil ?_; try show WP _ _ _ _ _ _)
  ((repeat apply WP.seq); apply WP.lreg; refine nM rfl rfl ?_; refine ALK.n OpN.cm rfl ?_; refine ALK.nil ?_; try show WP _ _ _ _ _ _)
  ((repeat apply WP.seq); refine WP.cond rfl (fun h => ?_) (fun h => ?_))
  · ((repeat apply WP.seq); apply WP.lreg; refine nM rfl rfl ?_; refine nA rfl rfl ?_; refine ALK.nil ?_; try show WP _ _ _ _ _ _)
    have hr : checkState p s = checkPlan p := by unfold checkState; rw [if_neg (by simpa using h)]
    rw [hr]
    ((repeat apply WP.seq); refine WP.ret ?_; first | exact RetOk.one Try.results41 ResV.a | exact RetOk.tup Try.results41 rfl ResVs.a)
  (refine WP.skip ?_; show WP _ _ _ _ _ _)
  have hp : checkPlan p = 0 := by simpa using h
  clear h
  obtain ⟨hm, hm1, hm4, hn8, hall⟩ := plan_m hp
  have hnT : nT p = p.txns.length := rfl
  ((repeat apply WP.seq); apply WP.lreg; (first | refine ALK.n (opn_field (o := 0) rfl (eB rfl)) rfl ?_ | refine ALK.n (opn_fieldOff (o := 0) rfl (eB rfl)) rfl ?_); (first | refine ALK.n (opn_load rfl (eB rfl) rfl) rfl ?_ | refine ALK.r OpR.ld rfl ?_); refine ALK.n (opn_call (IsStore_fn s.store) (Evs.cons Ev.a Evs.nil)) rfl ?_; refine ALK.n (opn_not (eB rfl)) rfl ?_; refine nM rfl rfl ?_; (first | refine ALK.g (fun hb => opn_field (o := 1) rfl (eB rfl)) rfl rfl rfl ?_ | refine ALK.g (fun hb => opn_fieldOff (o := 1) rfl (eB rfl)) rfl rfl rfl ?_); (first | refine ALK.g (fun hb => opn_load rfl (eC rfl hb) rfl) rfl rfl rfl ?_ | refine ALK.rg (fun hb => opr_load rfl (eC rfl hb) rfl rfl) rfl rfl rfl ?_ | refine ALK.rg (fun hb => opr_loadRow rfl rfl (eC rfl hb) rfl (by assumption) rfl) rfl rfl rfl ?_ | refine ALK.rg (fun hb => opr_loadK0 rfl (eC rfl hb) rfl (by assumption) rfl) rfl rfl rfl ?_ | refine ALK.rg (fun hb => opr_loadK rfl (eC rfl hb) rfl (by assumption) rfl) rfl rfl rfl ?_); (first | refine ALK.g (fun hb => opn_len rfl (eC rfl hb)) rfl rfl rfl ?_ | refine ALK.g (fun hb => opn_lenRow rfl (eC rfl hb)) rfl rfl rfl ?_ | refine ALK.g (fun hb => opn_lenNil rfl (eC rfl hb)) rfl rfl rfl ?_); (first | refine ALK.g (fun hb => opn_field (o := 1) rfl (eB rfl)) rfl rfl rfl ?_ | refine ALK.g (fun hb => opn_fieldOff (o := 1) rfl (eB rfl)) rfl rfl rfl ?_); (first | refine ALK.g (fun hb => opn_load rfl (eC rfl hb) rfl) rfl rfl rfl ?_ | refine ALK.rg (fun hb => opr_load rfl (eC rfl hb) rfl rfl) rfl rfl rfl ?_ | refine ALK.rg (fun hb => opr_loadRow rfl rfl (eC rfl hb) rfl (by assumption) rfl) rfl rfl rfl ?_ | refine ALK.rg (fun hb => opr_loadK0 rfl (eC rfl hb) rfl (by assumption) rfl) rfl rfl rfl ?_ | refine ALK.rg (fun hb => opr_loadK rfl (eC rfl hb) rfl (by assumption) rfl) rfl rfl rfl ?_); (first | refine ALK.g (fun hb => opn_len rfl (eC rfl hb)) rfl rfl rfl ?_ | refine ALK.g (fun hb => opn_lenRow rfl (eC rfl hb)) rfl rfl rfl ?_ | refine ALK.g (fun hb => opn_lenNil rfl (eC rfl hb)) rfl rfl rfl ?_); (first | refine ALK.g (fun hb => opn_cmp (eC rfl hb) (eC rfl hb) rfl) rfl rfl rfl ?_ | refine ALK.g (fun hb => opn_cmpB rfl (eC rfl hb) (eC rfl hb) rfl) rfl rfl rfl ?_); refine ALK.n (opn_pick_or (eB rfl) rfl rfl (fun hb2 => by first | (rw [hb2]; rfl) | (rw [hb, hb2]; rfl) | simp_all [gd])) rfl ?_; refine nM rfl rfl ?_; (first | refine ALK.g (fun hb => opn_field (o := 2) rfl (eB rfl)) rfl rfl rfl ?_ | refine ALK.g (fun hb => opn_fieldOff (o := 2) rfl (eB rfl)) rfl rfl rfl ?_); (first | refine ALK.g (fun hb => opn_load rfl (eC rfl hb) rfl) rfl rfl rfl ?_ | refine ALK.rg (fun hb => opr_load rfl (eC rfl hb) rfl rfl) rfl rfl rfl ?_ | refine ALK.rg (fun hb => opr_loadRow rfl rfl (eC rfl hb) rfl (by assumption) rfl) rfl rfl rfl ?_ | refine ALK.rg (fun hb => opr_loadK0 rfl (eC rfl hb) rfl (by assumption) rfl) rfl rfl rfl ?_ | refine ALK.rg (fun hb => opr_loadK rfl (eC rfl hb) rfl (by assumption) rfl) rfl rfl rfl ?_); (first | refine ALK.g (fun hb => opn_len rfl (eC rfl hb)) rfl rfl rfl ?_ | refine ALK.g (fun hb => opn_lenRow rfl (eC rfl hb)) rfl rfl rfl ?_ | refine ALK.g (fun hb => opn_lenNil rfl (eC rfl hb)) rfl rfl rfl ?_); (first | refine ALK.g (fun hb => opn_field (o := 1) rfl (eB rfl)) rfl rfl rfl ?_ | refine ALK.g (fun hb => opn_fieldOff (o := 1) rfl (eB rfl)) rfl rfl rfl ?_); (first | refine ALK.g (fun hb => opn_load rfl (eC rfl hb) rfl) rfl rfl rfl ?_ | refine ALK.rg (fun hb => opr_load rfl (eC rfl hb) rfl rfl) rfl rfl rfl ?_ | refine ALK.rg (fun hb => opr_loadRow rfl rfl (eC rfl hb) rfl (by assumption) rfl) rfl rfl rfl ?_ | refine ALK.rg (fun hb => opr_loadK0 rfl (eC rfl hb) rfl (by assumption) rfl) rfl rfl rfl ?_ | refine ALK.rg (fun hb => opr_loadK rfl (eC rfl hb) rfl (by assumption) rfl) rfl rfl rfl ?_); (first | refine ALK.g (fun hb => opn_len rfl (eC rfl hb)) rfl rfl rfl ?_ | refine ALK.g (fun hb => opn_lenRow rfl (eC rfl hb)) rfl rfl rfl ?_ | refine ALK.g (fun hb => opn_lenNil rfl (eC rfl hb)) rfl rfl rfl ?_); (first | refine ALK.g (fun hb => opn_cmp (eC rfl hb) (eC rfl hb) rfl) rfl rfl rfl ?_ | refine ALK.g (fun hb => opn_cmpB rfl (eC rfl hb) (eC rfl hb) rfl) rfl rfl rfl ?_); refine ALK.n (opn_pick_or (eB rfl) rfl rfl (fun hb2 => by first | (rw [hb2]; rfl) | (rw [hb, hb2]; rfl) | simp_all [gd])) rfl ?_; refine nM rfl rfl ?_; (first | refine ALK.g (fun hb => opn_field (o := 3) rfl (eB rfl)) rfl rfl rfl ?_ | refine ALK.g (fun hb => opn_fieldOff (o := 3) rfl (eB rfl)) rfl rfl rfl ?_); (first | refine ALK.g (fun hb => opn_load rfl (eC rfl hb) rfl) rfl rfl rfl ?_ | refine ALK.rg (fun hb => opr_load rfl (eC rfl hb) rfl rfl) rfl rfl rfl ?_ | refine ALK.rg (fun hb => opr_loadRow rfl rfl (eC rfl hb) rfl (by assumption) rfl) rfl rfl rfl ?_ | refine ALK.rg (fun hb => opr_loadK0 rfl (eC rfl hb) rfl (by assumption) rfl) rfl rfl rfl ?_ | refine ALK.rg (fun hb => opr_loadK rfl (eC rfl hb) rfl (by assumption) rfl) rfl rfl rfl ?_); (first | refine ALK.g (fun hb => opn_len rfl (eC rfl hb)) rfl rfl rfl ?_ | refine ALK.g (fun hb => opn_lenRow rfl (eC rfl hb)) rfl rfl rfl ?_ | refine ALK.g (fun hb => opn_lenNil rfl (eC rfl hb)) rfl rfl rfl ?_); (first | refine ALK.g (fun hb => opn_field (o := 1) rfl (eB rfl)) rfl rfl rfl ?_ | refine ALK.g (fun hb => opn_fieldOff (o := 1) rfl (eB rfl)) rfl rfl rfl ?_); (first | refine ALK.g (fun hb => opn_load rfl (eC rfl hb) rfl) rfl rfl rfl ?_ | refine ALK.rg (fun hb => opr_load rfl (eC rfl hb) rfl rfl) rfl rfl rfl ?_ | refine ALK.rg (fun hb => opr_loadRow rfl rfl (eC rfl hb) rfl (by assumption) rfl) rfl rfl rfl ?_ | refine ALK.rg (fun hb => opr_loadK0 rfl (eC rfl hb) rfl (by assumption) rfl) rfl rfl rfl ?_ | refine ALK.rg (fun hb => opr_loadK rfl (eC rfl hb) rfl (by assumption) rfl) rfl rfl rfl ?_); (first | refine ALK.g (fun hb => opn_len rfl (eC rfl hb)) rfl rfl rfl ?_ | refine ALK.g (fun hb => opn_lenRow rfl (eC rfl hb)) rfl rfl rfl ?_ | refine ALK.g (fun hb => opn_lenNil rfl (eC rfl hb)) rfl rfl rfl ?_); (first | refine ALK.g (fun hb => opn_cmp (eC rfl hb) (eC rfl hb) rfl) rfl rfl rfl ?_ | refine ALK.g (fun hb => opn_cmpB rfl (eC rfl hb) (eC rfl hb) rfl) rfl rfl rfl ?_); refine ALK.n (opn_pick_or (eB rfl) rfl rfl (fun hb2 => by first | (rw [hb2]; rfl) | (rw [hb, hb2]; rfl) | simp_all [gd])) rfl ?_; refine ALK.nil ?_; try show WP _ _ _ _ _ _)
  ((repeat apply WP.seq); refine WP.cond rfl (fun h => ?_) (fun h => ?_))
  · ((repeat apply WP.seq); apply WP.lreg; refine nA rfl rfl ?_; refine ALK.nil ?_; try show WP _ _ _ _ _ _)
    have hr : checkState p s = 1 := checkState_no hp (by
      cases hs : shapeB p s with
      | false => rfl
      | true =>
        obtain ⟨a, b, c, d, _⟩ := shape_iff.1 hs
        rw [a, b, c, d, hnT] at h
        simp at h)
    rw [hr]
    ((repeat apply WP.seq); refine WP.ret ?_; first | exact RetOk.one Try.results41 ResV.a | exact RetOk.tup Try.results41 rfl ResVs.a)
  (refine WP.skip ?_; show WP _ _ _ _ _ _)
  have hlens : s.store.length = 8 ∧ s.rd.length = nT p ∧ s.wr.length = nT p ∧ s.vals.length = nT p := by
    simp at h; omega
  clear h
  obtain ⟨l1, l2, l3, l4⟩ := hlens
  ((repeat apply WP.seq); apply WP.lreg; refine nA rfl rfl ?_; refine ALK.nil ?_; try show WP _ _ _ _ _ _)
  ((repeat apply WP.seq); apply WP.block)
  refine WP.loop (fun n : Nat => ⟨[(6, .im (IV.int n)), (2, .im (IV.ptr (cP p))), (3, .im (IV.ptr (cSt s)))], [], 0⟩) (fun n => n ≤ nT p ∧ ∀ i, i < n → rowsOk p s i = true ∧ ∀ k, k < mS p → fineAt p s i k = true) (fun n => nT p - n) 0 ⟨Nat.zero_le _, fun i hi => by omega⟩ (Shift.sub [] rfl SubE.a SubH.nil) ?_
  rintro n ⟨hn, hf⟩
  ((repeat apply WP.seq); apply WP.lreg; refine nM rfl rfl ?_; (first | refine ALK.n (opn_field (o := 1) rfl (eB rfl)) rfl ?_ | refine ALK.n (opn_fieldOff (o := 1) rfl (eB rfl)) rfl ?_); (first | refine ALK.n (opn_load rfl (eB rfl) rfl) rfl ?_ | refine ALK.r OpR.ld rfl ?_); refine ALK.n OpN.ln rfl ?_; refine ALK.n OpN.cm rfl ?_; refine ALK.nil ?_; try show WP _ _ _ _ _ _)
  ((repeat apply WP.seq); refine WP.cond rfl (fun h => ?_) (fun h => ?_))
  · (refine WP.skip ?_; show WP _ _ _ _ _ _)
    have hlt : n < nT p := by simp at h; omega
    obtain ⟨ht, hok⟩ := hall n hlt
    have e1 : s.rd[n]? = some (s.rd.getD n []) := getD_of_lt [] (by omega)
    have e2 : s.wr[n]? = some (s.wr.getD n []) := getD_of_lt [] (by omega)
    have e3 : s.vals[n]? = some (s.vals.getD n []) := getD_of_lt [] (by omega)
    ((repeat apply WP.seq); apply WP.block)
    ((repeat apply WP.seq); apply WP.ldraw; (first | refine ALK.n (opn_field (o := 1) rfl (eB rfl)) rfl ?_ | refine ALK.n (opn_fieldOff (o := 1) rfl (eB rfl)) rfl ?_); (first | refine ALK.n (opn_load rfl (eB rfl) rfl) rfl ?_ | refine ALK.r OpR.ld rfl ?_); refine nM rfl rfl ?_; refine ALK.n OpN.ix rfl ?_; (first | refine ALK.n (opn_load rfl (eB rfl) rfl) rfl ?_ | refine ALK.r OpR.ld rfl ?_); refine ALK.n OpN.ln rfl ?_; (first | refine ALK.n (opn_field (o := 0) rfl (eB rfl)) rfl ?_ | refine ALK.n (opn_fieldOff (o := 0) rfl (eB rfl)) rfl ?_); (first | refine ALK.n (opn_load rfl (eB rfl) rfl) rfl ?_ | refine ALK.r OpR.ld rfl ?_); refine ALK.n OpN.cm rfl ?_; refine nM rfl rfl ?_; (first | refine ALK.g (fun hb => opn_field (o := 2) rfl (eB rfl)) rfl rfl rfl ?_ | refine ALK.g (fun hb => opn_fieldOff (o := 2) rfl (eB rfl)) rfl rfl rfl ?_); (first | refine ALK.g (fun hb => opn_load rfl (eC rfl hb) rfl) rfl rfl rfl ?_ | refine ALK.rg (fun hb => opr_load rfl (eC rfl hb) rfl rfl) rfl rfl rfl ?_ | refine ALK.rg (fun hb => opr_loadRow rfl rfl (eC rfl hb) rfl (by assumption) rfl) rfl rfl rfl ?_ | refine ALK.rg (fun hb => opr_loadK0 rfl (eC rfl hb) rfl (by assumption) rfl) rfl rfl rfl ?_ | refine ALK.rg (fun hb => opr_loadK rfl (eC rfl hb) rfl (by assumption) rfl) rfl rfl rfl ?_); refine gM rfl rfl rfl rfl ?_; (first | refine ALK.g (fun hb => opn_index rfl (eC rfl hb) (eC rfl hb) (by omega) (by assumption)) rfl rfl rfl ?_ | refine ALK.g (fun hb => opn_indexRow1 rfl (eC rfl hb) (eC rfl hb) (by omega) (by omega)) rfl rfl rfl ?_ | refine ALK.g (fun hb => opn_indexRow rfl (eC rfl hb) (eC rfl hb) (by omega) (by omega)) rfl rfl rfl ?_ | refine ALK.g (fun hb => opn_indexArr rfl (eC rfl hb) (eC rfl hb) (by omega) (by omega)) rfl rfl rfl ?_ | refine ALK.g (fun hb => opn_indexArrI rfl (eC rfl hb) (eC rfl hb) (by omega) (by omega)) rfl rfl rfl ?_); (first | refine ALK.g (fun hb => opn_load rfl (eC rfl hb) rfl) rfl rfl rfl ?_ | refine ALK.rg (fun hb => opr_load rfl (eC rfl hb) rfl rfl) rfl rfl rfl ?_ | refine ALK.rg (fun hb => opr_loadRow rfl rfl (eC rfl hb) rfl (by assumption) rfl) rfl rfl rfl ?_ | refine ALK.rg (fun hb => opr_loadK0 rfl (eC rfl hb) rfl (by assumption) rfl) rfl rfl rfl ?_ | refine ALK.rg (fun hb => opr_loadK rfl (eC rfl hb) rfl (by assumption) rfl) rfl rfl rfl ?_); (first | refine ALK.g (fun hb => opn_len rfl (eC rfl hb)) rfl rfl rfl ?_ | refine ALK.g (fun hb => opn_lenRow rfl (eC rfl hb)) rfl rfl rfl ?_ | refine ALK.g (fun hb => opn_lenNil rfl (eC rfl hb)) rfl rfl rfl ?_); (first | refine ALK.g (fun hb => opn_field (o := 0) rfl (eB rfl)) rfl rfl rfl ?_ | refine ALK.g (fun hb => opn_fieldOff (o := 0) rfl (eB rfl)) rfl rfl rfl ?_); (first | refine ALK.g (fun hb => opn_load rfl (eC rfl hb) rfl) rfl rfl rfl ?_ | refine ALK.rg (fun hb => opr_load rfl (eC rfl hb) rfl rfl) rfl rfl rfl ?_ | refine ALK.rg (fun hb => opr_loadRow rfl rfl (eC rfl hb) rfl (by assumption) rfl) rfl rfl rfl ?_ | refine ALK.rg (fun hb => opr_loadK0 rfl (eC rfl hb) rfl (by assumption) rfl) rfl rfl rfl ?_ | refine ALK.rg (fun hb => opr_loadK rfl (eC rfl hb) rfl (by assumption) rfl) rfl rfl rfl ?_); (first | refine ALK.g (fun hb => opn_cmp (eC rfl hb) (eC rfl hb) rfl) rfl rfl rfl ?_ | refine ALK.g (fun hb => opn_cmpB rfl (eC rfl hb) (eC rfl hb) rfl) rfl rfl rfl ?_); refine ALK.n (opn_pick_or (eB rfl) rfl rfl (fun hb2 => by first | (rw [hb2]; rfl) | (rw [hb, hb2]; rfl) | simp_all [gd])) rfl ?_; refine nM rfl rfl ?_; (first | refine ALK.g (fun hb => opn_field (o := 3) rfl (eB rfl)) rfl rfl rfl ?_ | refine ALK.g (fun hb => opn_fieldOff (o := 3) rfl (eB rfl)) rfl rfl rfl ?_); (first | refine ALK.g (fun hb => opn_load rfl (eC rfl hb) rfl) rfl rfl rfl ?_ | refine ALK.rg (fun hb => opr_load rfl (eC rfl hb) rfl rfl) rfl rfl rfl ?_ | refine ALK.rg (fun hb => opr_loadRow rfl rfl (eC rfl hb) rfl (by assumption) rfl) rfl rfl rfl ?_ | refine ALK.rg (fun hb => opr_loadK0 rfl (eC rfl hb) rfl (by assumption) rfl) rfl rfl rfl ?_ | refine ALK.rg (fun hb => opr_loadK rfl (eC rfl hb) rfl (by assumption) rfl) rfl rfl rfl ?_); refine gM rfl rfl rfl rfl ?_; (first | refine ALK.g (fun hb => opn_index rfl (eC rfl hb) (eC rfl hb) (by omega) (by assumption)) rfl rfl rfl ?_ | refine ALK.g (fun hb => opn_indexRow1 rfl (eC rfl hb) (eC rfl hb) (by omega) (by omega)) rfl rfl rfl ?_ | refine ALK.g (fun hb => opn_indexRow rfl (eC rfl hb) (eC rfl hb) (by omega) (by omega)) rfl rfl rfl ?_ | refine ALK.g (fun hb => opn_indexArr rfl (eC rfl hb) (eC rfl hb) (by omega) (by omega)) rfl rfl rfl ?_ | refine ALK.g (fun hb => opn_indexArrI rfl (eC rfl hb) (eC rfl hb) (by omega) (by omega)) rfl rfl rfl ?_); (first | refine ALK.g (fun hb => opn_load rfl (eC rfl hb) rfl) rfl rfl rfl ?_ | refine ALK.rg (fun hb => opr_load rfl (eC rfl hb) rfl rfl) rfl rfl rfl ?_ | refine ALK.rg (fun hb => opr_loadRow rfl rfl (eC rfl hb) rfl (by assumption) rfl) rfl rfl rfl ?_ | refine ALK.rg (fun hb => opr_loadK0 rfl (eC rfl hb) rfl (by assumption) rfl) rfl rfl rfl ?_ | refine ALK.rg (fun hb => opr_loadK rfl (eC rfl hb) rfl (by assumption) rfl) rfl rfl rfl ?_); (first | refine ALK.g (fun hb => opn_len rfl (eC rfl hb)) rfl rfl rfl ?_ | refine ALK.g (fun hb => opn_lenRow rfl (eC rfl hb)) rfl rfl rfl ?_ | refine ALK.g (fun hb => opn_lenNil rfl (eC rfl hb)) rfl rfl rfl ?_); (first | refine ALK.g (fun hb => opn_field (o := 1) rfl (eB rfl)) rfl rfl rfl ?_ | refine ALK.g (fun hb => opn_fieldOff (o := 1) rfl (eB rfl)) rfl rfl rfl ?_); (first | refine ALK.g (fun hb => opn_load rfl (eC rfl hb) rfl) rfl rfl rfl ?_ | refine ALK.rg (fun hb => opr_load rfl (eC rfl hb) rfl rfl) rfl rfl rfl ?_ | refine ALK.rg (fun hb => opr_loadRow rfl rfl (eC rfl hb) rfl (by assumption) rfl) rfl rfl rfl ?_ | refine ALK.rg (fun hb => opr_loadK0 rfl (eC rfl hb) rfl (by assumption) rfl) rfl rfl rfl ?_ | refine ALK.rg (fun hb => opr_loadK rfl (eC rfl hb) rfl (by assumption) rfl) rfl rfl rfl ?_); refine gM rfl rfl rfl rfl ?_; (first | refine ALK.g (fun hb => opn_index rfl (eC rfl hb) (eC rfl hb) (by omega) (by assumption)) rfl rfl rfl ?_ | refine ALK.g (fun hb => opn_indexRow1 rfl (eC rfl hb) (eC rfl hb) (by omega) (by omega)) rfl rfl rfl ?_ | refine ALK.g (fun hb => opn_indexRow rfl (eC rfl hb) (eC rfl hb) (by omega) (by omega)) rfl rfl rfl ?_ | refine ALK.g (fun hb => opn_indexArr rfl (eC rfl hb) (eC rfl hb) (by omega) (by omega)) rfl rfl rfl ?_ | refine ALK.g (fun hb => opn_indexArrI rfl (eC rfl hb) (eC rfl hb) (by omega) (by omega)) rfl rfl rfl ?_); (first | refine ALK.g (fun hb => opn_field (o := 0) rfl (eC rfl hb)) rfl rfl rfl ?_ | refine ALK.g (fun hb => opn_fieldOff (o := 0) rfl (eC rfl hb)) rfl rfl rfl ?_); (first | refine ALK.g (fun hb => opn_load rfl (eC rfl hb) rfl) rfl rfl rfl ?_ | refine ALK.rg (fun hb => opr_load rfl (eC rfl hb) rfl rfl) rfl rfl rfl ?_ | refine ALK.rg (fun hb => opr_loadRow rfl rfl (eC rfl hb) rfl (by assumption) rfl) rfl rfl rfl ?_ | refine ALK.rg (fun hb => opr_loadK0 rfl (eC rfl hb) rfl (by assumption) rfl) rfl rfl rfl ?_ | refine ALK.rg (fun hb => opr_loadK rfl (eC rfl hb) rfl (by assumption) rfl) rfl rfl rfl ?_); (first | refine ALK.g (fun hb => opn_len rfl (eC rfl hb)) rfl rfl rfl ?_ | refine ALK.g (fun hb => opn_lenRow rfl (eC rfl hb)) rfl rfl rfl ?_ | refine ALK.g (fun hb => opn_lenNil rfl (eC rfl hb)) rfl rfl rfl ?_); (first | refine ALK.g (fun hb => opn_cmp (eC rfl hb) (eC rfl hb) rfl) rfl rfl rfl ?_ | refine ALK.g (fun hb => opn_cmpB rfl (eC rfl hb) (eC rfl hb) rfl) rfl rfl rfl ?_); refine ALK.n (opn_pick_or (eB rfl) rfl rfl (fun hb2 => by first | (rw [hb2]; rfl) | (rw [hb, hb2]; rfl) | simp_all [gd])) rfl ?_; refine ALK.nilD (by kernel_rfl) ?_; try show WP _ _ _ _ _ _)
    have hq := rowsOk_iff (p := p) (s := s) (n := n)
    ((repeat apply WP.seq); refine WP.cond rfl (fun h => ?_) (fun h => ?_))
    · ((repeat apply WP.seq); apply WP.lreg; refine nA rfl rfl ?_; refine ALK.nil ?_; try show WP _ _ _ _ _ _)
      have hr : checkState p s = 1 := checkState_no hp (by
        have : shapeB p s = false := shape_no hlt (by
          cases hs : rowsOk p s n with
          | false => rfl
          | true =>
            obtain ⟨a, b, c⟩ := hq.1 hs
            rw [a, b, c] at h
            simp at h; omega)
        rw [this]; rfl)
      rw [hr]
      ((repeat apply WP.seq); refine WP.ret ?_; first | exact RetOk.one Try.results41 ResV.a | exact RetOk.tup Try.results41 rfl ResVs.a)
    (refine WP.skip ?_; show WP _ _ _ _ _ _)
    have hrow : (s.rd.getD n []).length = mS p ∧ (s.wr.getD n []).length = mS p ∧ (s.vals.getD n []).length = (txN p n).reads.length := by
      generalize (s.rd.getD n []).length = a at h ⊢
      generalize (s.wr.getD n []).length = b at h ⊢
      generalize (s.vals.getD n []).length = c at h ⊢
      simp at h
      omega
    clear h
    obtain ⟨r1, r2, r3⟩ := hrow
    ((repeat apply WP.seq); apply WP.ldraw; (first | refine ALK.n (opn_load rfl (eB rfl) rfl) rfl ?_ | refine ALK.r OpR.ld rfl ?_); refine nM rfl rfl ?_; refine ALK.n (opn_call (ref_PartOf_fn p (mS p) n (txN p n) hm hm1 hm4 (by omega) ht hok) (Evs.cons Ev.a (Evs.cons Ev.a Evs.nil))) rfl ?_; (first | refine ALK.n (opn_load rfl (eB rfl) rfl) rfl ?_ | refine ALK.r OpR.ld rfl ?_); refine nM rfl rfl ?_; refine ALK.n (opn_call (ref_ActiveOf_fn p (mS p) n (txN p n) hm hm1 hm4 (by omega) ht hok) (Evs.cons Ev.a (Evs.cons Ev.a Evs.nil))) rfl ?_; refine nA rfl rfl ?_; refine nA rfl rfl ?_; refine ALK.nilD (by kernel_rfl) ?_; try show WP _ _ _ _ _ _)
    ((repeat apply WP.seq); apply WP.lreg; refine nA rfl rfl ?_; refine ALK.nil ?_; try show WP _ _ _ _ _ _)
    ((repeat apply WP.seq); apply WP.block)
    refine WP.loop (fun k : Nat => ⟨[(9, .im (IV.int k)), (7, .im (boolsV (partL (mS p) (txN p n)))), (8, .im (boolsV (actL (mS p) (txN p n)))), (6, .im (IV.int n)), (2, .im (IV.ptr (cP p))), (3, .im (IV.ptr (cSt s)))], [], 0⟩) (fun k => k ≤ mS p ∧ ∀ j, j < k → fineAt p s n j = true) (fun k => mS p - k) 0 ⟨Nat.zero_le _, fun i hi => by omega⟩ (Shift.sub [] rfl SubE.a SubH.nil) ?_
    rintro k ⟨hk, hg⟩
    ((repeat apply WP.seq); apply WP.lreg; refine nM rfl rfl ?_; (first | refine ALK.n (opn_field (o := 0) rfl (eB rfl)) rfl ?_ | refine ALK.n (opn_fieldOff (o := 0) rfl (eB rfl)) rfl ?_); (first | refine ALK.n (opn_load rfl (eB rfl) rfl) rfl ?_ | refine ALK.r OpR.ld rfl ?_); refine ALK.n OpN.cm rfl ?_; refine ALK.nil ?_; try show WP _ _ _ _ _ _)
    ((repeat apply WP.seq); refine WP.cond rfl (fun h => ?_) (fun h => ?_))
    · (refine WP.skip ?_; show WP _ _ _ _ _ _)
      have hkm : k < mS p := by simp at h; omega
      have e4 := prt_at (p := p) (n := n) hkm
      have e5 := act_at (p := p) (n := n) hkm
      have e6 : (s.rd.getD n [])[k]? = some (bAt s.rd n k) := getD_of_lt false (by omega)
      have e7 : (s.wr.getD n [])[k]? = some (bAt s.wr n k) := getD_of_lt false (by omega)
      have hq : fineAt p s n k = !((bAt s.rd n k && !prt p n k) || (bAt s.wr n k && (!act p n k || !allB p s n))) := rfl
      ((repeat apply WP.seq); apply WP.block)
      ((repeat apply WP.seq); apply WP.lreg; (first | refine ALK.n (opn_field (o := 1) rfl (eB rfl)) rfl ?_ | refine ALK.n (opn_fieldOff (o := 1) rfl (eB rfl)) rfl ?_); (first | refine ALK.n (opn_load rfl (eB rfl) rfl) rfl ?_ | refine ALK.r OpR.ld rfl ?_); refine nM rfl rfl ?_; refine ALK.n OpN.ix rfl ?_; (first | refine ALK.n (opn_load rfl (eB rfl) rfl) rfl ?_ | refine ALK.r OpR.ld rfl ?_); refine nM rfl rfl ?_; refine ALK.n OpN.ix rfl ?_; (first | refine ALK.n (opn_load rfl (eB rfl) rfl) rfl ?_ | refine ALK.r OpR.ld rfl ?_); refine nM rfl rfl ?_; refine gM rfl rfl rfl rfl ?_; refine gM rfl rfl rfl rfl ?_; (first | refine ALK.g (fun hb => opn_index rfl (eC rfl hb) (eC rfl hb) (by omega) (by assumption)) rfl rfl rfl ?_ | refine ALK.g (fun hb => opn_indexRow1 rfl (eC rfl hb) (eC rfl hb) (by omega) (by omega)) rfl rfl rfl ?_ | refine ALK.g (fun hb => opn_indexRow rfl (eC rfl hb) (eC rfl hb) (by omega) (by omega)) rfl rfl rfl ?_ | refine ALK.g (fun hb => opn_indexArr rfl (eC rfl hb) (eC rfl hb) (by omega) (by omega)) rfl rfl rfl ?_ | refine ALK.g (fun hb => opn_indexArrI rfl (eC rfl hb) (eC rfl hb) (by omega) (by omega)) rfl rfl rfl ?_); (first | refine ALK.g (fun hb => opn_load rfl (eC rfl hb) rfl) rfl rfl rfl ?_ | refine ALK.rg (fun hb => opr_load rfl (eC rfl hb) rfl rfl) rfl rfl rfl ?_ | refine ALK.rg (fun hb => opr_loadRow rfl rfl (eC rfl hb) rfl (by assumption) rfl) rfl rfl rfl ?_ | refine ALK.rg (fun hb => opr_loadK0 rfl (eC rfl hb) rfl (by assumption) rfl) rfl rfl rfl ?_ | refine ALK.rg (fun hb => opr_loadK rfl (eC rfl hb) rfl (by assumption) rfl) rfl rfl rfl ?_); refine ALK.g (fun hb => opn_not (eC rfl hb)) rfl rfl rfl ?_; refine ALK.n (opn_pick_and (eB rfl) rfl (fun hb2 => by first | exact hb2 | (rw [hb, hb2]; rfl) | simp_all [gd]) rfl) rfl ?_; refine nM rfl rfl ?_; (first | refine ALK.g (fun hb => opn_field (o := 2) rfl (eB rfl)) rfl rfl rfl ?_ | refine ALK.g (fun hb => opn_fieldOff (o := 2) rfl (eB rfl)) rfl rfl rfl ?_); (first | refine ALK.g (fun hb => opn_load rfl (eC rfl hb) rfl) rfl rfl rfl ?_ | refine ALK.rg (fun hb => opr_load rfl (eC rfl hb) rfl rfl) rfl rfl rfl ?_ | refine ALK.rg (fun hb => opr_loadRow rfl rfl (eC rfl hb) rfl (by assumption) rfl) rfl rfl rfl ?_ | refine ALK.rg (fun hb => opr_loadK0 rfl (eC rfl hb) rfl (by assumption) rfl) rfl rfl rfl ?_ | refine ALK.rg (fun hb => opr_loadK rfl (eC rfl hb) rfl (by assumption) rfl) rfl rfl rfl ?_); refine gM rfl rfl rfl rfl ?_; (first | refine ALK.g (fun hb => opn_index rfl (eC rfl hb) (eC rfl hb) (by omega) (by assumption)) rfl rfl rfl ?_ | refine ALK.g (fun hb => opn_indexRow1 rfl (eC rfl hb) (eC rfl hb) (by omega) (by omega)) rfl rfl rfl ?_ | refine ALK.g (fun hb => opn_indexRow rfl (eC rfl hb) (eC rfl hb) (by omega) (by omega)) rfl rfl rfl ?_ | refine ALK.g (fun hb => opn_indexArr rfl (eC rfl hb) (eC rfl hb) (by omega) (by omega)) rfl rfl rfl ?_ | refine ALK.g (fun hb => opn_indexArrI rfl (eC rfl hb) (eC rfl hb) (by omega) (by omega)) rfl rfl rfl ?_); (first | refine ALK.g (fun hb => opn_load rfl (eC rfl hb) rfl) rfl rfl rfl ?_ | refine ALK.rg (fun hb => opr_load rfl (eC rfl hb) rfl rfl) rfl rfl rfl ?_ | refine ALK.rg (fun hb => opr_loadRow rfl rfl (eC rfl hb) rfl (by assumption) rfl) rfl rfl rfl ?_ | refine ALK.rg (fun hb => opr_loadK0 rfl (eC rfl hb) rfl (by assumption) rfl) rfl rfl rfl ?_ | refine ALK.rg (fun hb => opr_loadK rfl (eC rfl hb) rfl (by assumption) rfl) rfl rfl rfl ?_); refine gM rfl rfl rfl rfl ?_; (first | refine ALK.g (fun hb => opn_index rfl (eC rfl hb) (eC rfl hb) (by omega) (by assumption)) rfl rfl rfl ?_ | refine ALK.g (fun hb => opn_indexRow1 rfl (eC rfl hb) (eC rfl hb) (by omega) (by omega)) rfl rfl rfl ?_ | refine ALK.g (fun hb => opn_indexRow rfl (eC rfl hb) (eC rfl hb) (by omega) (by omega)) rfl rfl rfl ?_ | refine ALK.g (fun hb => opn_indexArr rfl (eC rfl hb) (eC rfl hb) (by omega) (by omega)) rfl rfl rfl ?_ | refine ALK.g (fun hb => opn_indexArrI rfl (eC rfl hb) (eC rfl hb) (by omega) (by omega)) rfl rfl rfl ?_); (first | refine ALK.g (fun hb => opn_load rfl (eC rfl hb) rfl) rfl rfl rfl ?_ | refine ALK.rg (fun hb => opr_load rfl (eC rfl hb) rfl rfl) rfl rfl rfl ?_ | refine ALK.rg (fun hb => opr_loadRow rfl rfl (eC rfl hb) rfl (by assumption) rfl) rfl rfl rfl ?_ | refine ALK.rg (fun hb => opr_loadK0 rfl (eC rfl hb) rfl (by assumption) rfl) rfl rfl rfl ?_ | refine ALK.rg (fun hb => opr_loadK rfl (eC rfl hb) rfl (by assumption) rfl) rfl rfl rfl ?_); refine ALK.g (fun hb => opn_move (eC rfl hb)) rfl rfl rfl ?_; refine ALK.g2 (fun hb => opn_move (eB rfl)) rfl rfl rfl ?_; refine ALK.g2 (fun hb => opn_move (eB rfl)) rfl rfl rfl ?_; (first | refine ALK.g2 (fun hb => opn_index rfl (eC rfl hb) (eC rfl hb) (by omega) (by assumption)) rfl rfl rfl ?_ | refine ALK.g2 (fun hb => opn_indexRow1 rfl (eC rfl hb) (eC rfl hb) (by omega) (by omega)) rfl rfl rfl ?_ | refine ALK.g2 (fun hb => opn_indexRow rfl (eC rfl hb) (eC rfl hb) (by omega) (by omega)) rfl rfl rfl ?_ | refine ALK.g2 (fun hb => opn_indexArr rfl (eC rfl hb) (eC rfl hb) (by omega) (by omega)) rfl rfl rfl ?_ | refine ALK.g2 (fun hb => opn_indexArrI rfl (eC rfl hb) (eC rfl hb) (by omega) (by omega)) rfl rfl rfl ?_); (first | refine ALK.g2 (fun hb => opn_load rfl (eC rfl hb) rfl) rfl rfl rfl ?_ | refine ALK.rg2 (fun hb => opr_load rfl (eC rfl hb) rfl rfl) rfl rfl rfl ?_ | refine ALK.rg2 (fun hb => opr_loadRow rfl rfl (eC rfl hb) rfl (by assumption) rfl) rfl rfl rfl ?_ | refine ALK.rg2 (fun hb => opr_loadK0 rfl (eC rfl hb) rfl (by assumption) rfl) rfl rfl rfl ?_ | refine ALK.rg2 (fun hb => opr_loadK rfl (eC rfl hb) rfl (by assumption) rfl) rfl rfl rfl ?_); refine ALK.g2 (fun hb => opn_not (eC rfl hb)) rfl rfl rfl ?_; refine ALK.g2 (fun hb => opn_move (eC rfl hb)) rfl rfl rfl ?_; (first | refine ALK.g2 (fun hb => opn_load rfl (eB rfl) rfl) rfl rfl rfl ?_ | refine ALK.rg2 (fun hb => opr_load rfl (eB rfl) rfl rfl) rfl rfl rfl ?_ | refine ALK.rg2 (fun hb => opr_loadRow rfl rfl (eB rfl) rfl (by assumption) rfl) rfl rfl rfl ?_ | refine ALK.rg2 (fun hb => opr_loadK0 rfl (eB rfl) rfl (by assumption) rfl) rfl rfl rfl ?_ | refine ALK.rg2 (fun hb => opr_loadK rfl (eB rfl) rfl (by assumption) rfl) rfl rfl rfl ?_); (first | refine ALK.g2 (fun hb => opn_load rfl (eB rfl) rfl) rfl rfl rfl ?_ | refine ALK.rg2 (fun hb => opr_load rfl (eB rfl) rfl rfl) rfl rfl rfl ?_ | refine ALK.rg2 (fun hb => opr_loadRow rfl rfl (eB rfl) rfl (by assumption) rfl) rfl rfl rfl ?_ | refine ALK.rg2 (fun hb => opr_loadK0 rfl (eB rfl) rfl (by assumption) rfl) rfl rfl rfl ?_ | refine ALK.rg2 (fun hb => opr_loadK rfl (eB rfl) rfl (by assumption) rfl) rfl rfl rfl ?_); refine ALK.g2 (fun hb => opn_move (eB rfl)) rfl rfl rfl ?_; refine ALK.g2 (fun hb => opn_call (R_allRead_fn p s n hp hlt l2 r1) (Evs.cons Ev.a (Evs.cons Ev.a (Evs.cons Ev.a Evs.nil)))) rfl rfl rfl ?_; refine ALK.g2 (fun hb => opn_not (eC rfl hb)) rfl rfl rfl ?_; refine ALK.g2 (fun hb => opn_pick_or (eC rfl hb) rfl rfl (fun hb2 => by first | (rw [hb2]; rfl) | (rw [hb, hb2]; rfl) | simp_all [gd])) rfl rfl rfl ?_; refine ALK.g (fun hb => opn_pick_and (eC rfl hb) rfl (fun hb2 => by first | exact hb2 | (rw [hb, hb2]; rfl) | simp_all [gd]) rfl) rfl rfl rfl ?_; refine ALK.n (opn_pick_or (eB rfl) rfl rfl (fun hb2 => by first | (rw [hb2]; rfl) | (rw [hb, hb2]; rfl) | simp_all [gd])) rfl ?_; refine ALK.nil ?_; try show WP _ _ _ _ _ _)
      ((repeat apply WP.seq); refine WP.cond rfl (fun h => ?_) (fun h => ?_))
      · ((repeat apply WP.seq); apply WP.lreg; refine nA rfl rfl ?_; refine ALK.nil ?_; try show WP _ _ _ _ _ _)
        have hr : checkState p s = 1 := checkState_no hp (by
          have : fineB p s = false := fineB_at hlt hkm (by
            rw [hq]
            generalize bAt s.rd n k = a at h ⊢; generalize prt p n k = b at h ⊢; generalize bAt s.wr n k = c at h ⊢; generalize act p n k = d at h ⊢; generalize allB p s n = e at h ⊢
            revert h; cases a <;> cases b <;> cases c <;> cases d <;> cases e <;> simp)
          rw [this, Bool.and_false])
        rw [hr]
        ((repeat apply WP.seq); refine WP.ret ?_; first | exact RetOk.one Try.results41 ResV.a | exact RetOk.tup Try.results41 rfl ResVs.a)
      (refine WP.skip ?_; show WP _ _ _ _ _ _)
      ((repeat apply WP.seq); apply WP.lreg; refine nM rfl rfl ?_; refine ALK.n OpN.ar rfl ?_; refine nA rfl rfl ?_; refine ALK.nil ?_; try show WP _ _ _ _ _ _)
      show ∃ _, _ ∧ _ ∧ _
      refine ⟨k + 1, ⟨by omega, fun j hj => ?_⟩, by omega, (Shift.sub [] rfl SubE.a SubH.nil)⟩
      by_cases e : j = k
      · subst e
        rw [hq]
        generalize bAt s.rd n j = a at h ⊢; generalize prt p n j = b at h ⊢; generalize bAt s.wr n j = c at h ⊢; generalize act p n j = d at h ⊢; generalize allB p s n = e at h ⊢
        revert h; cases a <;> cases b <;> cases c <;> cases d <;> cases e <;> simp
      · exact hg j (by omega)
    · ((repeat apply WP.seq); refine WP.exit ?_; show WP _ _ _ _ _ _)
      have hkm : k = mS p := by simp at h; omega
      subst hkm
      ((repeat apply WP.seq); apply WP.lreg; refine nM rfl rfl ?_; refine ALK.n OpN.ar rfl ?_; refine nA rfl rfl ?_; refine ALK.nil ?_; try show WP _ _ _ _ _ _)
      show ∃ _, _ ∧ _ ∧ _
      refine ⟨n + 1, ⟨by omega, fun i hi => ?_⟩, by omega, (Shift.sub [] rfl SubE.a SubH.nil)⟩
      by_cases e : i = n
      · subst e; exact ⟨rowsOk_iff.2 ⟨r1, r2, r3⟩, hg⟩
      · exact hf i (by omega)
  · ((repeat apply WP.seq); refine WP.exit ?_; show WP _ _ _ _ _ _)
    have hn2 : n = nT p := by simp at h; omega
    subst hn2
    ((repeat apply WP.seq); apply WP.lreg; refine nA rfl rfl ?_; refine ALK.nil ?_; try show WP _ _ _ _ _ _)
    have hs : shapeB p s = true := shape_iff.2 ⟨l1, l2, l3, l4, fun i hi => rowsOk_iff.1 (hf i hi).1⟩
    have hr : checkState p s = 0 := by
      unfold checkState
      rw [if_pos hp, if_pos (by rw [hs, fineB_iff.2 fun i hi => (hf i hi).2]; rfl)]
    rw [hr]
    ((repeat apply WP.seq); refine WP.ret ?_; first | exact RetOk.one Try.results41 ResV.a | exact RetOk.tup Try.results41 rfl ResVs.a)
set_option maxRecDepth 100000 in
set_option maxHeartbeats 1000000 in
theorem OverOf_fn (p : Plan) (s : StT) (v : Valid p s) : Fn (Cfg.mk Try.prog (ttAt ttl) ttl_ok.ok mixd) 44 [planV p, stV s] (IV.bool (overB p s)) := by
  obtain ⟨hm, hm1, hm4, hn8, hall⟩ := plan_m v.plan
  have hnT : nT p = p.txns.length := rfl
  refine Fn.of_wp _ Try.func44 rfl (by kernel_rfl) Try.ntmps44 rfl ?_
  intro F hD hG
  ((repeat apply WP.seq); apply WP.lreg; refine ALK.n (opn_box (eB rfl) Cs.a rfl) rfl ?_; refine ALK.n (opn_box (eB rfl) Cs.a rfl) rfl ?_; refine nA rfl rfl ?_; refine ALK.nil ?_; try show WP _ _ _ _ _ _)
  ((repeat apply WP.seq); apply WP.lreg; refine nA rfl rfl ?_; refine ALK.nil ?_; try show WP _ _ _ _ _ _)
  ((repeat apply WP.seq); apply WP.block)
  refine WP.loop (fun n : Nat => ⟨[(5, .im (IV.int n)), (2, .im (IV.ptr (cP p))), (3, .im (IV.ptr (cSt s)))], [], 0⟩) (fun n => n ≤ nT p ∧ ∀ i, i < n → ∀ k, k < mS p → goneB p s i k = true) (fun n => nT p - n) 0 ⟨Nat.zero_le _, fun i hi => by omega⟩ (Shift.sub [] rfl SubE.a SubH.nil) ?_
  rintro n ⟨hn, hf⟩
  ((repeat apply WP.seq); apply WP.lreg; refine nM rfl rfl ?_; (first | refine ALK.n (opn_field (o := 1) rfl (eB rfl)) rfl ?_ | refine ALK.n (opn_fieldOff (o := 1) rfl (eB rfl)) rfl ?_); (first | refine ALK.n (opn_load rfl (eB rfl) rfl) rfl ?_ | refine ALK.r OpR.ld rfl ?_); refine ALK.n OpN.ln rfl ?_; refine ALK.n OpN.cm rfl ?_; refine ALK.nil ?_; try show WP _ _ _ _ _ _)
  ((repeat apply WP.seq); refine WP.cond rfl (fun h => ?_) (fun h => ?_))
  · (refine WP.skip ?_; show WP _ _ _ _ _ _)
    have hlt : n < nT p := by simp at h; omega
    ((repeat apply WP.seq); apply WP.block)
    ((repeat apply WP.seq); apply WP.lreg; refine nA rfl rfl ?_; refine ALK.nil ?_; try show WP _ _ _ _ _ _)
    ((repeat apply WP.seq); apply WP.block)
    refine WP.loop (fun k : Nat => ⟨[(6, .im (IV.int k)), (5, .im (IV.int n)), (2, .im (IV.ptr (cP p))), (3, .im (IV.ptr (cSt s)))], [], 0⟩) (fun k => k ≤ mS p ∧ ∀ j, j < k → goneB p s n j = true) (fun k => mS p - k) 0 ⟨Nat.zero_le _, fun i hi => by omega⟩ (Shift.sub [] rfl SubE.a SubH.nil) ?_
    rintro k ⟨hk, hg⟩
    ((repeat apply WP.seq); apply WP.lreg; refine nM rfl rfl ?_; (first | refine ALK.n (opn_field (o := 0) rfl (eB rfl)) rfl ?_ | refine ALK.n (opn_fieldOff (o := 0) rfl (eB rfl)) rfl ?_); (first | refine ALK.n (opn_load rfl (eB rfl) rfl) rfl ?_ | refine ALK.r OpR.ld rfl ?_); refine ALK.n OpN.cm rfl ?_; refine ALK.nil ?_; try show WP _ _ _ _ _ _)
    ((repeat apply WP.seq); refine WP.cond rfl (fun h => ?_) (fun h => ?_))
    · (refine WP.skip ?_; show WP _ _ _ _ _ _)
      have hkm : k < mS p := by simp at h; omega
      ((repeat apply WP.seq); apply WP.block)
      ((repeat apply WP.seq); apply WP.lreg; (first | refine ALK.n (opn_load rfl (eB rfl) rfl) rfl ?_ | refine ALK.r OpR.ld rfl ?_); (first | refine ALK.n (opn_load rfl (eB rfl) rfl) rfl ?_ | refine ALK.r OpR.ld rfl ?_); refine nM rfl rfl ?_; refine nM rfl rfl ?_; refine ALK.n (opn_call (R_gone_fn p s n k v hlt hkm) (Evs.cons Ev.a (Evs.cons Ev.a (Evs.cons Ev.a (Evs.cons Ev.a Evs.nil))))) rfl ?_; refine ALK.n (opn_not (eB rfl)) rfl ?_; refine ALK.nil ?_; try show WP _ _ _ _ _ _)
      ((repeat apply WP.seq); refine WP.cond rfl (fun h => ?_) (fun h => ?_))
      · ((repeat apply WP.seq); apply WP.lreg; refine nA rfl rfl ?_; refine ALK.nil ?_; try show WP _ _ _ _ _ _)
        have hr : overB p s = false := by
          cases ho : overB p s with
          | false => rfl
          | true => rw [over_iff.1 ho n k hlt hkm] at h; cases h
        ((repeat apply WP.seq); refine WP.ret ?_; first | exact RetOk.one Try.results44 ResV.a | exact RetOk.tup Try.results44 rfl ResVs.a)
      (refine WP.skip ?_; show WP _ _ _ _ _ _)
      ((repeat apply WP.seq); apply WP.lreg; refine nM rfl rfl ?_; refine ALK.n OpN.ar rfl ?_; refine nA rfl rfl ?_; refine ALK.nil ?_; try show WP _ _ _ _ _ _)
      show ∃ _, _ ∧ _ ∧ _
      refine ⟨k + 1, ⟨by omega, fun j hj => ?_⟩, by omega, (Shift.sub [] rfl SubE.a SubH.nil)⟩
      by_cases e : j = k
      · subst e; simpa using h
      · exact hg j (by omega)
    · ((repeat apply WP.seq); refine WP.exit ?_; show WP _ _ _ _ _ _)
      have hkm : k = mS p := by simp at h; omega
      subst hkm
      ((repeat apply WP.seq); apply WP.lreg; refine nM rfl rfl ?_; refine ALK.n OpN.ar rfl ?_; refine nA rfl rfl ?_; refine ALK.nil ?_; try show WP _ _ _ _ _ _)
      show ∃ _, _ ∧ _ ∧ _
      refine ⟨n + 1, ⟨by omega, fun i hi => ?_⟩, by omega, (Shift.sub [] rfl SubE.a SubH.nil)⟩
      by_cases e : i = n
      · subst e; exact hg
      · exact hf i (by omega)
  · ((repeat apply WP.seq); refine WP.exit ?_; show WP _ _ _ _ _ _)
    have hn2 : n = nT p := by simp at h; omega
    subst hn2
    ((repeat apply WP.seq); apply WP.lreg; refine nA rfl rfl ?_; refine ALK.nil ?_; try show WP _ _ _ _ _ _)
    have hr : overB p s = true := over_iff.2 fun i j hi hj => hf i hi j hj
    ((repeat apply WP.seq); refine WP.ret ?_; first | exact RetOk.one Try.results44 ResV.a | exact RetOk.tup Try.results44 rfl ResVs.a)
end Go.Proofs.Ytjgmbgfcffnanab
