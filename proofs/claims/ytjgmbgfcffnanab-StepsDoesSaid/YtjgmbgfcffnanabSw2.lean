/- The laws StepsChecks, StepsDoes, StepsCan and StepsRight. -/
import Derived.Test.YtjgmbgfcffnanabSw1
namespace Go.Proofs.Ytjgmbgfcffnanab
open Go.RowKit

set_option maxRecDepth 100000 in
theorem StepsDoes_fn (p : Plan) (s : StT) (x : StepT) (hB : TxsB p.txns) : Fn (Cfg.mk Try.prog (ttAt ttl) ttl_ok.ok mixd) 12 [planV p, stV s, stpV x] (IV.bool true) := by
  refine Fn.of_wp _ Try.func12 rfl (by kernel_rfl) Try.ntmps12 rfl ?_
  intro F hD hG
  ((repeat apply WP.seq); apply WP.lreg; refine ALK.n (opn_box (eB rfl) Cs.a rfl) rfl ?_; refine ALK.n (opn_box (eB rfl) Cs.a rfl) rfl ?_; refine ALK.n (opn_box (eB rfl) Cs.a rfl) rfl ?_; refine nA rfl rfl ?_; refine ALK.nil ?_; try show WP _ _ _ _ _ _)
  ((repeat apply WP.seq); apply WP.lreg; (first | refine ALK.n (opn_load rfl (eB rfl) rfl) rfl ?_ | refine ALK.r OpR.ld rfl ?_); (first | refine ALK.n (opn_load rfl (eB rfl) rfl) rfl ?_ | refine ALK.r OpR.ld rfl ?_); (first | refine ALK.n (opn_load rfl (eB rfl) rfl) rfl ?_ | refine ALK.r OpR.ld rfl ?_); refine ALK.n (opn_call (Do_fn p s x hB) (Evs.cons Ev.a (Evs.cons Ev.a (Evs.cons Ev.a Evs.nil)))) rfl ?_; refine nM rfl rfl ?_; refine nX rfl rfl rfl ?_; refine nX rfl rfl rfl ?_; refine ALK.a (opa_alloc rfl rfl) rfl ?_; (first | refine ALK.e (ope_store rfl (eB rfl) (eB rfl) Cs.a rfl rfl rfl) rfl rfl ?_ | refine ALK.e (ope_storeRow rfl rfl (eB rfl) (eB rfl) (oc_val rfl) rfl rfl (by assumption)) rfl rfl ?_); refine nA rfl rfl ?_; refine ALK.nil ?_; try show WP _ _ _ _ _ _)
  ((repeat apply WP.seq); apply WP.lreg; (first | refine ALK.n (opn_load rfl (eB rfl) rfl) rfl ?_ | refine ALK.r OpR.ld rfl ?_); (first | refine ALK.n (opn_load rfl (eB rfl) rfl) rfl ?_ | refine ALK.r OpR.ld rfl ?_); (first | refine ALK.n (opn_load rfl (eB rfl) rfl) rfl ?_ | refine ALK.r OpR.ld rfl ?_); refine ALK.n (opn_call (DoOf_fn p s x hB) (Evs.cons Ev.a (Evs.cons Ev.a (Evs.cons Ev.a Evs.nil)))) rfl ?_; refine nM rfl rfl ?_; refine nX rfl rfl rfl ?_; refine nX rfl rfl rfl ?_; refine ALK.a (opa_alloc rfl rfl) rfl ?_; (first | refine ALK.e (ope_store rfl (eB rfl) (eB rfl) Cs.a rfl rfl rfl) rfl rfl ?_ | refine ALK.e (ope_storeRow rfl rfl (eB rfl) (eB rfl) (oc_val rfl) rfl rfl (by assumption)) rfl rfl ?_); refine nA rfl rfl ?_; refine ALK.nil ?_; try show WP _ _ _ _ _ _)
  ((repeat apply WP.seq); apply WP.lreg; refine ALK.n (opn_call stepsBegun_fn Evs.nil) rfl ?_; refine nM rfl rfl ?_; refine gM rfl rfl rfl rfl ?_; refine gM rfl rfl rfl rfl ?_; (first | refine ALK.g (fun hb => opn_cmp (eC rfl hb) (eC rfl hb) rfl) rfl rfl rfl ?_ | refine ALK.g (fun hb => opn_cmpB rfl (eC rfl hb) (eC rfl hb) rfl) rfl rfl rfl ?_); refine ALK.n (opn_pick_and (eB rfl) rfl (fun hb2 => by first | exact hb2 | (rw [hb, hb2]; rfl) | simp_all [gd]) rfl) rfl ?_; refine nM rfl rfl ?_; (first | refine ALK.g (fun hb => opn_load rfl (eB rfl) rfl) rfl rfl rfl ?_ | refine ALK.rg (fun hb => opr_load rfl (eB rfl) rfl rfl) rfl rfl rfl ?_ | refine ALK.rg (fun hb => opr_loadRow rfl rfl (eB rfl) rfl (by assumption) rfl) rfl rfl rfl ?_ | refine ALK.rg (fun hb => opr_loadK0 rfl (eB rfl) rfl (by assumption) rfl) rfl rfl rfl ?_ | refine ALK.rg (fun hb => opr_loadK rfl (eB rfl) rfl (by assumption) rfl) rfl rfl rfl ?_); (first | refine ALK.g (fun hb => opn_load rfl (eB rfl) rfl) rfl rfl rfl ?_ | refine ALK.rg (fun hb => opr_load rfl (eB rfl) rfl rfl) rfl rfl rfl ?_ | refine ALK.rg (fun hb => opr_loadRow rfl rfl (eB rfl) rfl (by assumption) rfl) rfl rfl rfl ?_ | refine ALK.rg (fun hb => opr_loadK0 rfl (eB rfl) rfl (by assumption) rfl) rfl rfl rfl ?_ | refine ALK.rg (fun hb => opr_loadK rfl (eB rfl) rfl (by assumption) rfl) rfl rfl rfl ?_); refine ALK.g (fun hb => opn_call (SameStates_fn _ _) (Evs.cons Ev.a (Evs.cons Ev.a Evs.nil))) rfl rfl rfl ?_; refine ALK.n (opn_pick_and (eB rfl) rfl (fun hb2 => by first | exact hb2 | (rw [hb, hb2]; rfl) | simp_all [gd]) rfl) rfl ?_; refine nA rfl rfl ?_; refine ALK.nil ?_; try show WP _ _ _ _ _ _)
  refine WP.ret ?_
  refine RetOk.one Try.results12 (ResV.tmp rfl (ImOf.im (ILe.bool ?_)))
  simp
set_option maxRecDepth 100000 in
set_option maxHeartbeats 2000000 in
theorem StepsChecks_fn (p : Plan) (st : List Int) (s : StT) (hB : TxsB p.txns) : Fn (Cfg.mk Try.prog (ttAt ttl) ttl_ok.ok mixd) 10 [planV p, intsV st, stV s] (IV.bool true) := by
  refine Fn.of_wp _ Try.func10 rfl (by kernel_rfl) Try.ntmps10 rfl ?_
  intro F hD hG
  ((repeat apply WP.seq); apply WP.lreg; refine ALK.n (opn_box (eB rfl) Cs.a rfl) rfl ?_; refine ALK.n (opn_box (eB rfl) Cs.a rfl) rfl ?_; refine nA rfl rfl ?_; refine ALK.nil ?_; try show WP _ _ _ _ _ _)
  ((repeat apply WP.seq); apply WP.lreg; (first | refine ALK.n (opn_load rfl (eB rfl) rfl) rfl ?_ | refine ALK.r OpR.ld rfl ?_); refine nM rfl rfl ?_; refine ALK.n (opn_call (Begin_fn p st hB) (Evs.cons Ev.a (Evs.cons Ev.a Evs.nil))) rfl ?_; refine nM rfl rfl ?_; refine nX rfl rfl rfl ?_; refine nX rfl rfl rfl ?_; refine ALK.a (opa_alloc rfl rfl) rfl ?_; (first | refine ALK.e (ope_store rfl (eB rfl) (eB rfl) Cs.a rfl rfl rfl) rfl rfl ?_ | refine ALK.e (ope_storeRow rfl rfl (eB rfl) (eB rfl) (oc_val rfl) rfl rfl (by assumption)) rfl rfl ?_); refine nA rfl rfl ?_; refine ALK.nil ?_; try show WP _ _ _ _ _ _)
  ((repeat apply WP.seq); apply WP.lreg; (first | refine ALK.n (opn_load rfl (eB rfl) rfl) rfl ?_ | refine ALK.r OpR.ld rfl ?_); (first | refine ALK.n (opn_load rfl (eB rfl) rfl) rfl ?_ | refine ALK.r OpR.ld rfl ?_); refine ALK.n (opn_call (Over_fn p s hB) (Evs.cons Ev.a (Evs.cons Ev.a Evs.nil))) rfl ?_; refine nM rfl rfl ?_; refine nX rfl rfl rfl ?_; refine nX rfl rfl rfl ?_; refine nA rfl rfl ?_; refine nA rfl rfl ?_; refine ALK.nil ?_; try show WP _ _ _ _ _ _)
  ((repeat apply WP.seq); apply WP.lreg; (first | refine ALK.n (opn_load rfl (eB rfl) rfl) rfl ?_ | refine ALK.r OpR.ld rfl ?_); refine ALK.n (opn_call (ref_CheckPlan_fn p hB) (Evs.cons Ev.a Evs.nil)) rfl ?_; refine nA rfl rfl ?_; refine ALK.nil ?_; try show WP _ _ _ _ _ _)
  ((repeat apply WP.seq); apply WP.lreg; refine nM rfl rfl ?_; refine ALK.n OpN.cm rfl ?_; refine nM rfl rfl ?_; refine gM rfl rfl rfl rfl ?_; refine ALK.g (fun hb => opn_call (IsStore_fn st) (Evs.cons Ev.a Evs.nil)) rfl rfl rfl ?_; refine ALK.g (fun hb => opn_not (eC rfl hb)) rfl rfl rfl ?_; refine ALK.n (opn_pick_and (eB rfl) rfl (fun hb2 => by first | exact hb2 | (rw [hb, hb2]; rfl) | simp_all [gd]) rfl) rfl ?_; refine ALK.nil ?_; try show WP _ _ _ _ _ _)
  ((repeat apply WP.seq); refine WP.qshift (⟨[(11, .im (IV.int (beginE p st))), (1, .im (intsV st)), (3, .im (IV.ptr (cP p))), (5, .im (IV.ptr (cSt s))), (7, .off 0 0), (8, .im (IV.int (beginE p st))), (9, .im (IV.bool (overE p s))), (10, .im (IV.int (checkState p s)))], [(0, .blk 64 [.im (intsV (begS p st).store), .im (bbV (begS p st).rd), .im (bbV (begS p st).wr), .im (iiV (begS p st).vals)])], 1⟩) (WP.cond rfl (fun h => ?_) (fun h => ?_)) ?_)
  · have hr : beginE p st = 1 := by
      unfold beginE
      simp at h
      rw [if_pos h.1, if_neg h.2]
    ((repeat apply WP.seq); apply WP.lreg; refine nA rfl rfl ?_; refine ALK.nil ?_; try show WP _ _ _ _ _ _)
    show Shift _ _ _ _
    exact Shift.sub [(0, 0)] rfl (SubE.cons rfl (SLe.im (ILe.int hr.symm)) SubE.a) SubH.a
  · have hr : beginE p st = checkPlan p := by
      unfold beginE
      simp at h
      by_cases hc : checkPlan p = 0
      · rw [if_pos hc, if_pos (h hc), hc]
      · rw [if_neg hc]
    refine WP.skip ?_; show Shift _ _ _ _
    exact Shift.sub [(0, 0)] rfl (SubE.cons rfl (SLe.im (ILe.int hr.symm)) SubE.a) SubH.a
  ((repeat apply WP.seq); apply WP.lreg; refine ALK.a (opa_alloc rfl rfl) rfl ?_; refine ALK.nil ?_; try show WP _ _ _ _ _ _)
  ((repeat apply WP.seq); apply WP.lreg; refine nM rfl rfl ?_; refine ALK.n OpN.cm rfl ?_; refine ALK.nil ?_; try show WP _ _ _ _ _ _)
  ((repeat apply WP.seq); refine WP.qshift (⟨[(11, .im (IV.int (beginE p st))), (1, .im (intsV st)), (3, .im (IV.ptr (cP p))), (5, .im (IV.ptr (cSt s))), (7, .off 0 0), (12, .off 1 0), (8, .im (IV.int (beginE p st))), (9, .im (IV.bool (overE p s))), (10, .im (IV.int (checkState p s)))], [(0, .blk 64 [.im (intsV (begS p st).store), .im (bbV (begS p st).rd), .im (bbV (begS p st).wr), .im (iiV (begS p st).vals)]), (1, .blk 64 [.im (intsV (begS p st).store), .im (bbV (begS p st).rd), .im (bbV (begS p st).wr), .im (iiV (begS p st).vals)])], 2⟩) (WP.cond rfl (fun h => ?_) (fun h => ?_)) ?_)
  · have h0 : beginE p st = 0 := by simpa using h
    have hr : beginS p st = begS p st := by unfold begS; rw [if_pos h0]
    ((repeat apply WP.seq); apply WP.lreg; (first | refine ALK.n (opn_load rfl (eB rfl) rfl) rfl ?_ | refine ALK.r OpR.ld rfl ?_); refine nM rfl rfl ?_; refine ALK.n (opn_call (BeginOf_fn p st h0) (Evs.cons Ev.a (Evs.cons Ev.a Evs.nil))) rfl ?_; (first | refine ALK.e (ope_store rfl (eB rfl) (eB rfl) Cs.a rfl rfl rfl) rfl rfl ?_ | refine ALK.e (ope_storeRow rfl rfl (eB rfl) (eB rfl) (oc_val rfl) rfl rfl (by assumption)) rfl rfl ?_); refine ALK.nil ?_; try show WP _ _ _ _ _ _)
    show Shift _ _ _ _
    rw [hr]
    exact Shift.sub [(0, 0), (1, 1)] rfl SubE.a (SubH.cons rfl rfl (ObLe.blk SLes.a) (SubH.cons rfl rfl (ObLe.blk SLes.a) SubH.nil))
  · have h0 : ¬ beginE p st = 0 := by simpa using h
    have hr : begS p st = st0 := by unfold begS; rw [if_neg h0]
    refine WP.skip ?_; show Shift _ _ _ _
    rw [hr]
    exact Shift.sub [(0, 0), (1, 1)] rfl SubE.a (SubH.cons rfl rfl (ObLe.blk SLes.a) (SubH.cons rfl rfl (ObLe.blk SLes.a) SubH.nil))
  ((repeat apply WP.seq); apply WP.lreg; (first | refine ALK.n (opn_load rfl (eB rfl) rfl) rfl ?_ | refine ALK.r OpR.ld rfl ?_); (first | refine ALK.n (opn_load rfl (eB rfl) rfl) rfl ?_ | refine ALK.r OpR.ld rfl ?_); refine ALK.n (opn_call (R_CheckState_fn p s hB) (Evs.cons Ev.a (Evs.cons Ev.a Evs.nil))) rfl ?_; refine nA rfl rfl ?_; refine ALK.nil ?_; try show WP _ _ _ _ _ _)
  ((repeat apply WP.seq); apply WP.lreg; refine ALK.n (opn_call stepsBegun_fn Evs.nil) rfl ?_; refine nM rfl rfl ?_; refine gM rfl rfl rfl rfl ?_; refine gM rfl rfl rfl rfl ?_; (first | refine ALK.g (fun hb => opn_cmp (eC rfl hb) (eC rfl hb) rfl) rfl rfl rfl ?_ | refine ALK.g (fun hb => opn_cmpB rfl (eC rfl hb) (eC rfl hb) rfl) rfl rfl rfl ?_); refine ALK.n (opn_pick_and (eB rfl) rfl (fun hb2 => by first | exact hb2 | (rw [hb, hb2]; rfl) | simp_all [gd]) rfl) rfl ?_; refine nM rfl rfl ?_; (first | refine ALK.g (fun hb => opn_load rfl (eB rfl) rfl) rfl rfl rfl ?_ | refine ALK.rg (fun hb => opr_load rfl (eB rfl) rfl rfl) rfl rfl rfl ?_ | refine ALK.rg (fun hb => opr_loadRow rfl rfl (eB rfl) rfl (by assumption) rfl) rfl rfl rfl ?_ | refine ALK.rg (fun hb => opr_loadK0 rfl (eB rfl) rfl (by assumption) rfl) rfl rfl rfl ?_ | refine ALK.rg (fun hb => opr_loadK rfl (eB rfl) rfl (by assumption) rfl) rfl rfl rfl ?_); (first | refine ALK.g (fun hb => opn_load rfl (eB rfl) rfl) rfl rfl rfl ?_ | refine ALK.rg (fun hb => opr_load rfl (eB rfl) rfl rfl) rfl rfl rfl ?_ | refine ALK.rg (fun hb => opr_loadRow rfl rfl (eB rfl) rfl (by assumption) rfl) rfl rfl rfl ?_ | refine ALK.rg (fun hb => opr_loadK0 rfl (eB rfl) rfl (by assumption) rfl) rfl rfl rfl ?_ | refine ALK.rg (fun hb => opr_loadK rfl (eB rfl) rfl (by assumption) rfl) rfl rfl rfl ?_); refine ALK.g (fun hb => opn_call (SameStates_fn _ _) (Evs.cons Ev.a (Evs.cons Ev.a Evs.nil))) rfl rfl rfl ?_; refine ALK.n (opn_pick_and (eB rfl) rfl (fun hb2 => by first | exact hb2 | (rw [hb, hb2]; rfl) | simp_all [gd]) rfl) rfl ?_; refine nM rfl rfl ?_; (first | refine ALK.g (fun hb => opn_load rfl (eB rfl) rfl) rfl rfl rfl ?_ | refine ALK.rg (fun hb => opr_load rfl (eB rfl) rfl rfl) rfl rfl rfl ?_ | refine ALK.rg (fun hb => opr_loadRow rfl rfl (eB rfl) rfl (by assumption) rfl) rfl rfl rfl ?_ | refine ALK.rg (fun hb => opr_loadK0 rfl (eB rfl) rfl (by assumption) rfl) rfl rfl rfl ?_ | refine ALK.rg (fun hb => opr_loadK rfl (eB rfl) rfl (by assumption) rfl) rfl rfl rfl ?_); (first | refine ALK.g (fun hb => opn_load rfl (eB rfl) rfl) rfl rfl rfl ?_ | refine ALK.rg (fun hb => opr_load rfl (eB rfl) rfl rfl) rfl rfl rfl ?_ | refine ALK.rg (fun hb => opr_loadRow rfl rfl (eB rfl) rfl (by assumption) rfl) rfl rfl rfl ?_ | refine ALK.rg (fun hb => opr_loadK0 rfl (eB rfl) rfl (by assumption) rfl) rfl rfl rfl ?_ | refine ALK.rg (fun hb => opr_loadK rfl (eB rfl) rfl (by assumption) rfl) rfl rfl rfl ?_); refine ALK.g (fun hb => opn_call (steps_Check_fn p s hB) (Evs.cons Ev.a (Evs.cons Ev.a Evs.nil))) rfl rfl rfl ?_; refine gM rfl rfl rfl rfl ?_; (first | refine ALK.g (fun hb => opn_cmp (eC rfl hb) (eC rfl hb) rfl) rfl rfl rfl ?_ | refine ALK.g (fun hb => opn_cmpB rfl (eC rfl hb) (eC rfl hb) rfl) rfl rfl rfl ?_); refine ALK.n (opn_pick_and (eB rfl) rfl (fun hb2 => by first | exact hb2 | (rw [hb, hb2]; rfl) | simp_all [gd]) rfl) rfl ?_; refine nM rfl rfl ?_; refine gM rfl rfl rfl rfl ?_; refine gM rfl rfl rfl rfl ?_; (first | refine ALK.g (fun hb => opn_cmp (eC rfl hb) (eC rfl hb) rfl) rfl rfl rfl ?_ | refine ALK.g (fun hb => opn_cmpB rfl (eC rfl hb) (eC rfl hb) rfl) rfl rfl rfl ?_); refine ALK.n (opn_pick_and (eB rfl) rfl (fun hb2 => by first | exact hb2 | (rw [hb, hb2]; rfl) | simp_all [gd]) rfl) rfl ?_; refine nM rfl rfl ?_; refine gM rfl rfl rfl rfl ?_; refine gM rfl rfl rfl rfl ?_; (first | refine ALK.g (fun hb => opn_cmp (eC rfl hb) (eB rfl) rfl) rfl rfl rfl ?_ | refine ALK.g (fun hb => opn_cmpB rfl (eC rfl hb) (eB rfl) rfl) rfl rfl rfl ?_); refine ALK.g (fun hb => opn_move (eC rfl hb)) rfl rfl rfl ?_; (first | refine ALK.g2 (fun hb => opn_load rfl (eB rfl) rfl) rfl rfl rfl ?_ | refine ALK.rg2 (fun hb => opr_load rfl (eB rfl) rfl rfl) rfl rfl rfl ?_ | refine ALK.rg2 (fun hb => opr_loadRow rfl rfl (eB rfl) rfl (by assumption) rfl) rfl rfl rfl ?_ | refine ALK.rg2 (fun hb => opr_loadK0 rfl (eB rfl) rfl (by assumption) rfl) rfl rfl rfl ?_ | refine ALK.rg2 (fun hb => opr_loadK rfl (eB rfl) rfl (by assumption) rfl) rfl rfl rfl ?_); (first | refine ALK.g2 (fun hb => opn_load rfl (eB rfl) rfl) rfl rfl rfl ?_ | refine ALK.rg2 (fun hb => opr_load rfl (eB rfl) rfl rfl) rfl rfl rfl ?_ | refine ALK.rg2 (fun hb => opr_loadRow rfl rfl (eB rfl) rfl (by assumption) rfl) rfl rfl rfl ?_ | refine ALK.rg2 (fun hb => opr_loadK0 rfl (eB rfl) rfl (by assumption) rfl) rfl rfl rfl ?_ | refine ALK.rg2 (fun hb => opr_loadK rfl (eB rfl) rfl (by assumption) rfl) rfl rfl rfl ?_); refine ALK.g2 (fun hb => opn_call (OverOf_fn p s (valid_iff.1 (by simp [gd] at hb; exact hb))) (Evs.cons Ev.a (Evs.cons Ev.a Evs.nil))) rfl rfl rfl ?_; refine ALK.g (fun hb => opn_pick_and (eC rfl hb) rfl (fun hb2 => by first | exact hb2 | (rw [hb, hb2]; rfl) | simp_all [gd]) rfl) rfl rfl rfl ?_; (first | refine ALK.g (fun hb => opn_cmp (eC rfl hb) (eC rfl hb) rfl) rfl rfl rfl ?_ | refine ALK.g (fun hb => opn_cmpB rfl (eC rfl hb) (eC rfl hb) rfl) rfl rfl rfl ?_); refine ALK.n (opn_pick_and (eB rfl) rfl (fun hb2 => by first | exact hb2 | (rw [hb, hb2]; rfl) | simp_all [gd]) rfl) rfl ?_; refine nA rfl rfl ?_; refine ALK.nil ?_; try show WP _ _ _ _ _ _)
  refine WP.ret ?_
  refine RetOk.one Try.results10 (ResV.tmp rfl (ImOf.im (ILe.bool ?_)))
  by_cases hv : checkState p s = 0
  · simp [overE, hv]
  · simp [overE, hv]
set_option maxRecDepth 100000 in
set_option maxHeartbeats 2000000 in
theorem StepsCan_fn (p : Plan) (s : StT) (hB : TxsB p.txns) : Fn (Cfg.mk Try.prog (ttAt ttl) ttl_ok.ok mixd) 11 [planV p, stV s] (IV.bool true) := by
  refine Fn.of_wp _ Try.func11 rfl (by kernel_rfl) Try.ntmps11 rfl ?_
  intro F hD hG
  ((repeat apply WP.seq); apply WP.lreg; refine ALK.n (opn_box (eB rfl) Cs.a rfl) rfl ?_; refine ALK.n (opn_box (eB rfl) Cs.a rfl) rfl ?_; refine nA rfl rfl ?_; refine ALK.nil ?_; try show WP _ _ _ _ _ _)
  ((repeat apply WP.seq); apply WP.lreg; (first | refine ALK.n (opn_load rfl (eB rfl) rfl) rfl ?_ | refine ALK.r OpR.ld rfl ?_); (first | refine ALK.n (opn_load rfl (eB rfl) rfl) rfl ?_ | refine ALK.r OpR.ld rfl ?_); refine ALK.n (opn_call (Can_fn p s hB) (Evs.cons Ev.a (Evs.cons Ev.a Evs.nil))) rfl ?_; refine nM rfl rfl ?_; refine nX rfl rfl rfl ?_; refine nX rfl rfl rfl ?_; refine nA rfl rfl ?_; refine nA rfl rfl ?_; refine ALK.nil ?_; try show WP _ _ _ _ _ _)
  ((repeat apply WP.seq); apply WP.lreg; (first | refine ALK.n (opn_load rfl (eB rfl) rfl) rfl ?_ | refine ALK.r OpR.ld rfl ?_); (first | refine ALK.n (opn_load rfl (eB rfl) rfl) rfl ?_ | refine ALK.r OpR.ld rfl ?_); refine ALK.n (opn_call (R_CheckState_fn p s hB) (Evs.cons Ev.a (Evs.cons Ev.a Evs.nil))) rfl ?_; refine nA rfl rfl ?_; refine ALK.nil ?_; try show WP _ _ _ _ _ _)
  ((repeat apply WP.seq); apply WP.lreg; refine nA rfl rfl ?_; refine ALK.nil ?_; try show WP _ _ _ _ _ _)
  ((repeat apply WP.seq); apply WP.lreg; refine nM rfl rfl ?_; refine ALK.n OpN.cm rfl ?_; refine ALK.nil ?_; try show WP _ _ _ _ _ _)
  ((repeat apply WP.seq); refine WP.qshift (⟨[(8, .im (stpsV (canE p s))), (5, .im (stpsV (canE p s))), (6, .im (IV.int (checkState p s))), (7, .im (IV.int (checkState p s))), (2, .im (IV.ptr (cP p))), (3, .im (IV.ptr (cSt s)))], [], 0⟩) (WP.cond rfl (fun h => ?_) (fun h => ?_)) ?_)
  · have h0 : checkState p s = 0 := by simpa using h
    have hr : canE p s = canL p s := by unfold canE; rw [if_pos h0]
    ((repeat apply WP.seq); apply WP.lreg; (first | refine ALK.n (opn_load rfl (eB rfl) rfl) rfl ?_ | refine ALK.r OpR.ld rfl ?_); (first | refine ALK.n (opn_load rfl (eB rfl) rfl) rfl ?_ | refine ALK.r OpR.ld rfl ?_); refine ALK.n (opn_call (CanOf_fn p s (valid_iff.1 h0)) (Evs.cons Ev.a (Evs.cons Ev.a Evs.nil))) rfl ?_; refine nA rfl rfl ?_; refine ALK.nil ?_; try show WP _ _ _ _ _ _)
    show Shift _ _ _ _
    rw [hr]
    exact Shift.sub [] rfl SubE.a SubH.a
  · have h0 : ¬ checkState p s = 0 := by simpa using h
    have hr : canE p s = [] := by unfold canE; rw [if_neg h0]
    refine WP.skip ?_; show Shift _ _ _ _
    rw [hr]
    exact Shift.sub [] rfl SubE.a SubH.a
  have hlen : (canE p s).length ≤ 64 := by
    unfold canE
    split
    · have v := valid_iff.1 (by assumption)
      obtain ⟨hm, hm1, hm4, hn8, hall⟩ := plan_m v.plan
      exact (show (canTo p s 3).length ≤ 64 from canTo_len hm4 hn8 3)
    · simp
  ((repeat apply WP.seq); apply WP.lreg; refine nM rfl rfl ?_; refine ALK.n OpN.ln rfl ?_; refine nM rfl rfl ?_; refine ALK.n OpN.ln rfl ?_; refine ALK.n OpN.cm rfl ?_; refine ALK.nil ?_; try show WP _ _ _ _ _ _)
  ((repeat apply WP.seq); refine WP.cond rfl (fun h => ?_) (fun h => ?_))
  · simp at h
  (refine WP.skip ?_; show WP _ _ _ _ _ _)
  ((repeat apply WP.seq); apply WP.lreg; refine nA rfl rfl ?_; refine ALK.nil ?_; try show WP _ _ _ _ _ _)
  ((repeat apply WP.seq); apply WP.block)
  refine WP.loop (fun n : Nat => ⟨[(9, .im (IV.int n)), (8, .im (stpsV (canE p s))), (5, .im (stpsV (canE p s))), (6, .im (IV.int (checkState p s))), (7, .im (IV.int (checkState p s))), (2, .im (IV.ptr (cP p))), (3, .im (IV.ptr (cSt s)))], [], 0⟩) (fun n => n ≤ (canE p s).length) (fun n => (canE p s).length - n) 0 (Nat.zero_le _) (Shift.sub [] rfl SubE.a SubH.a) ?_
  rintro n hn
  ((repeat apply WP.seq); apply WP.lreg; refine nM rfl rfl ?_; refine nM rfl rfl ?_; refine ALK.n OpN.ln rfl ?_; refine ALK.n OpN.cm rfl ?_; refine ALK.nil ?_; try show WP _ _ _ _ _ _)
  ((repeat apply WP.seq); refine WP.cond rfl (fun h => ?_) (fun h => ?_))
  · (refine WP.skip ?_; show WP _ _ _ _ _ _)
    have hnl : n < (canE p s).length := by simpa using h
    obtain ⟨x, hx⟩ := get_at hnl
    ((repeat apply WP.seq); apply WP.block)
    ((repeat apply WP.seq); apply WP.ldraw; refine nM rfl rfl ?_; refine nM rfl rfl ?_; refine ALK.n OpN.ix rfl ?_; (first | refine ALK.n (opn_load rfl (eB rfl) rfl) rfl ?_ | refine ALK.r OpR.ld rfl ?_); refine nM rfl rfl ?_; refine nM rfl rfl ?_; refine ALK.n OpN.ix rfl ?_; (first | refine ALK.n (opn_load rfl (eB rfl) rfl) rfl ?_ | refine ALK.r OpR.ld rfl ?_); refine ALK.n (opn_eqS (us := tVals x) (vs := tVals x) (by first | exact Ev.base rfl | exact Ev.cnd rfl (by assumption) | exact Ev.of (eB rfl) (ImOf.agg rfl ILes.refl) | exact Ev.of (Ev.cnd rfl (by assumption)) (ImOf.agg rfl ILes.refl) | exact Ev.of (eB rfl) (ImOf.im (ILe.nil rfl))) (by first | exact Ev.base rfl | exact Ev.cnd rfl (by assumption) | exact Ev.of (eB rfl) (ImOf.agg rfl ILes.refl) | exact Ev.of (Ev.cnd rfl (by assumption)) (ImOf.agg rfl ILes.refl) | exact Ev.of (eB rfl) (ImOf.im (ILe.nil rfl))) (ne_stp _ _ x x)) rfl ?_; refine ALK.nilD (by kernel_rfl) ?_; try show WP _ _ _ _ _ _)
    ((repeat apply WP.seq); refine WP.cond rfl (fun h => ?_) (fun h => ?_))
    · simp at h
    (refine WP.skip ?_; show WP _ _ _ _ _ _)
    ((repeat apply WP.seq); apply WP.lreg; refine nM rfl rfl ?_; refine ALK.n OpN.ar rfl ?_; refine nA rfl rfl ?_; refine ALK.nil ?_; try show WP _ _ _ _ _ _)
    show ∃ _, _ ∧ _ ∧ _
    exact ⟨n + 1, by omega, by omega, Shift.sub [] rfl SubE.a SubH.a⟩
  · ((repeat apply WP.seq); refine WP.exit ?_; show WP _ _ _ _ _ _)
    ((repeat apply WP.seq); apply WP.lreg; refine ALK.n (opn_call stepsBegun_fn Evs.nil) rfl ?_; refine nM rfl rfl ?_; refine gM rfl rfl rfl rfl ?_; refine gM rfl rfl rfl rfl ?_; (first | refine ALK.g (fun hb => opn_cmp (eC rfl hb) (eC rfl hb) rfl) rfl rfl rfl ?_ | refine ALK.g (fun hb => opn_cmpB rfl (eC rfl hb) (eC rfl hb) rfl) rfl rfl rfl ?_); refine ALK.n (opn_pick_and (eB rfl) rfl (fun hb2 => by first | exact hb2 | (rw [hb, hb2]; rfl) | simp_all [gd]) rfl) rfl ?_; refine nA rfl rfl ?_; refine ALK.nil ?_; try show WP _ _ _ _ _ _)
    refine WP.ret ?_
    refine RetOk.one Try.results11 (ResV.tmp rfl (ImOf.im (ILe.bool ?_)))
    simp
set_option maxRecDepth 100000 in
set_option maxHeartbeats 2000000 in
theorem StepsRight_fn (p : Plan) (s : StT) (x : StepT) (hB : TxsB p.txns) : Fn (Cfg.mk Try.prog (ttAt ttl) ttl_ok.ok mixd) 13 [planV p, stV s, stpV x] (IV.bool true) := by
  refine Fn.of_wp _ Try.func13 rfl (by kernel_rfl) Try.ntmps13 rfl ?_
  intro F hD hG
  ((repeat apply WP.seq); apply WP.lreg; refine ALK.n (opn_box (eB rfl) Cs.a rfl) rfl ?_; refine ALK.n (opn_box (eB rfl) Cs.a rfl) rfl ?_; refine ALK.n (opn_box (eB rfl) Cs.a rfl) rfl ?_; refine nA rfl rfl ?_; refine ALK.nil ?_; try show WP _ _ _ _ _ _)
  ((repeat apply WP.seq); apply WP.lreg; (first | refine ALK.n (opn_load rfl (eB rfl) rfl) rfl ?_ | refine ALK.r OpR.ld rfl ?_); (first | refine ALK.n (opn_load rfl (eB rfl) rfl) rfl ?_ | refine ALK.r OpR.ld rfl ?_); refine ALK.n (opn_call (Can_fn p s hB) (Evs.cons Ev.a (Evs.cons Ev.a Evs.nil))) rfl ?_; refine nM rfl rfl ?_; refine nX rfl rfl rfl ?_; refine nX rfl rfl rfl ?_; refine nA rfl rfl ?_; refine nA rfl rfl ?_; refine ALK.nil ?_; try show WP _ _ _ _ _ _)
  ((repeat apply WP.seq); apply WP.lreg; (first | refine ALK.n (opn_load rfl (eB rfl) rfl) rfl ?_ | refine ALK.r OpR.ld rfl ?_); (first | refine ALK.n (opn_load rfl (eB rfl) rfl) rfl ?_ | refine ALK.r OpR.ld rfl ?_); refine ALK.n (opn_call (Over_fn p s hB) (Evs.cons Ev.a (Evs.cons Ev.a Evs.nil))) rfl ?_; refine nM rfl rfl ?_; refine nX rfl rfl rfl ?_; refine nX rfl rfl rfl ?_; refine nA rfl rfl ?_; refine nA rfl rfl ?_; refine ALK.nil ?_; try show WP _ _ _ _ _ _)
  ((repeat apply WP.seq); apply WP.lreg; refine nM rfl rfl ?_; refine ALK.n OpN.cm rfl ?_; refine nM rfl rfl ?_; refine gM rfl rfl rfl rfl ?_; (first | refine ALK.g (fun hb => opn_cmp (eC rfl hb) (eB rfl) rfl) rfl rfl rfl ?_ | refine ALK.g (fun hb => opn_cmpB rfl (eC rfl hb) (eB rfl) rfl) rfl rfl rfl ?_); refine ALK.n (opn_pick_or (eB rfl) rfl rfl (fun hb2 => by first | (rw [hb2]; rfl) | (rw [hb, hb2]; rfl) | simp_all [gd])) rfl ?_; refine ALK.nil ?_; try show WP _ _ _ _ _ _)
  ((repeat apply WP.seq); refine WP.cond rfl (fun h => ?_) (fun h => ?_))
  · ((repeat apply WP.seq); apply WP.lreg; refine ALK.n (opn_call stepsBegun_fn Evs.nil) rfl ?_; refine nM rfl rfl ?_; refine gM rfl rfl rfl rfl ?_; refine gM rfl rfl rfl rfl ?_; (first | refine ALK.g (fun hb => opn_cmp (eC rfl hb) (eC rfl hb) rfl) rfl rfl rfl ?_ | refine ALK.g (fun hb => opn_cmpB rfl (eC rfl hb) (eC rfl hb) rfl) rfl rfl rfl ?_); refine ALK.n (opn_pick_and (eB rfl) rfl (fun hb2 => by first | exact hb2 | (rw [hb, hb2]; rfl) | simp_all [gd]) rfl) rfl ?_; refine nA rfl rfl ?_; refine ALK.nil ?_; try show WP _ _ _ _ _ _)
    refine WP.ret ?_
    refine RetOk.one Try.results13 (ResV.tmp rfl (ImOf.im (ILe.bool ?_)))
    simp
  (refine WP.skip ?_; show WP _ _ _ _ _ _)
  have h0 : checkState p s = 0 := by simpa using h
  have v := valid_iff.1 h0
  have hr : canE p s = canL p s := by unfold canE; rw [if_pos h0]
  have hov : overE p s = overB p s := by unfold overE; simp [h0]
  obtain ⟨hm, hm1, hm4, hn8, hall⟩ := plan_m v.plan
  have hlen : (canL p s).length ≤ 64 := (show (canTo p s 3).length ≤ 64 from canTo_len hm4 hn8 3)
  rw [hr, hov]
  clear h
  ((repeat apply WP.seq); apply WP.lreg; (first | refine ALK.n (opn_load rfl (eB rfl) rfl) rfl ?_ | refine ALK.r OpR.ld rfl ?_); (first | refine ALK.n (opn_load rfl (eB rfl) rfl) rfl ?_ | refine ALK.r OpR.ld rfl ?_); (first | refine ALK.n (opn_load rfl (eB rfl) rfl) rfl ?_ | refine ALK.r OpR.ld rfl ?_); refine ALK.n (opn_call (Do_fn p s x hB) (Evs.cons Ev.a (Evs.cons Ev.a (Evs.cons Ev.a Evs.nil)))) rfl ?_; refine nM rfl rfl ?_; refine nX rfl rfl rfl ?_; refine nX rfl rfl rfl ?_; refine ALK.a (opa_alloc rfl rfl) rfl ?_; (first | refine ALK.e (ope_store rfl (eB rfl) (eB rfl) Cs.a rfl rfl rfl) rfl rfl ?_ | refine ALK.e (ope_storeRow rfl rfl (eB rfl) (eB rfl) (oc_val rfl) rfl rfl (by assumption)) rfl rfl ?_); refine nA rfl rfl ?_; refine ALK.nil ?_; try show WP _ _ _ _ _ _)
  ((repeat apply WP.seq); apply WP.lreg; refine nA rfl rfl ?_; refine ALK.nil ?_; try show WP _ _ _ _ _ _)
  ((repeat apply WP.seq); apply WP.lreg; refine nA rfl rfl ?_; refine ALK.nil ?_; try show WP _ _ _ _ _ _)
  ((repeat apply WP.seq); apply WP.block)
  refine WP.loop (fun n : Nat => ⟨[(14, .im (IV.int n)), (13, .im (IV.bool (decide (x ∈ (canL p s).take n)))), (12, .im (IV.int (doE p s x))), (7, .im (stpsV (canL p s))), (9, .im (IV.bool (overB p s))), (11, .off 0 0), (3, .im (IV.ptr (cP p))), (5, .im (IV.ptr (cStp x)))], [(0, .blk 64 [.im (intsV (doS p s x).store), .im (bbV (doS p s x).rd), .im (bbV (doS p s x).wr), .im (iiV (doS p s x).vals)])], 1⟩) (fun n => n ≤ (canL p s).length) (fun n => (canL p s).length - n) 0 (Nat.zero_le _) (Shift.sub [(0, 0)] rfl SubE.a (SubH.cons rfl rfl (ObLe.blk SLes.a) SubH.nil)) ?_
  rintro n hn
  ((repeat apply WP.seq); apply WP.lreg; refine nM rfl rfl ?_; refine nM rfl rfl ?_; refine ALK.n OpN.ln rfl ?_; refine ALK.n OpN.cm rfl ?_; refine ALK.nil ?_; try show WP _ _ _ _ _ _)
  ((repeat apply WP.seq); refine WP.cond rfl (fun h => ?_) (fun h => ?_))
  · (refine WP.skip ?_; show WP _ _ _ _ _ _)
    have hnl : n < (canL p s).length := by simpa using h
    obtain ⟨y, hy⟩ := get_at hnl
    have hx2 : decide (x ∈ (canL p s).take (n + 1)) = (decide (x ∈ (canL p s).take n) || decide (y = x)) := by
      rw [take_snoc hy, Bool.eq_iff_iff]
      simp only [decide_eq_true_eq, Bool.or_eq_true, List.mem_append, List.mem_singleton]
      exact ⟨fun h => h.imp id Eq.symm, fun h => h.imp id Eq.symm⟩
    ((repeat apply WP.seq); apply WP.block)
    ((repeat apply WP.seq); apply WP.ldraw; refine nM rfl rfl ?_; refine nM rfl rfl ?_; refine gM rfl rfl rfl rfl ?_; refine gM rfl rfl rfl rfl ?_; (first | refine ALK.g (fun hb => opn_index rfl (eC rfl hb) (eC rfl hb) (by omega) (by assumption)) rfl rfl rfl ?_ | refine ALK.g (fun hb => opn_indexRow1 rfl (eC rfl hb) (eC rfl hb) (by omega) (by omega)) rfl rfl rfl ?_ | refine ALK.g (fun hb => opn_indexRow rfl (eC rfl hb) (eC rfl hb) (by omega) (by omega)) rfl rfl rfl ?_ | refine ALK.g (fun hb => opn_indexArr rfl (eC rfl hb) (eC rfl hb) (by omega) (by omega)) rfl rfl rfl ?_ | refine ALK.g (fun hb => opn_indexArrI rfl (eC rfl hb) (eC rfl hb) (by omega) (by omega)) rfl rfl rfl ?_); (first | refine ALK.g (fun hb => opn_load rfl (eC rfl hb) rfl) rfl rfl rfl ?_ | refine ALK.rg (fun hb => opr_load rfl (eC rfl hb) rfl rfl) rfl rfl rfl ?_ | refine ALK.rg (fun hb => opr_loadRow rfl rfl (eC rfl hb) rfl (by assumption) rfl) rfl rfl rfl ?_ | refine ALK.rg (fun hb => opr_loadK0 rfl (eC rfl hb) rfl (by assumption) rfl) rfl rfl rfl ?_ | refine ALK.rg (fun hb => opr_loadK rfl (eC rfl hb) rfl (by assumption) rfl) rfl rfl rfl ?_); (first | refine ALK.g (fun hb => opn_load rfl (eB rfl) rfl) rfl rfl rfl ?_ | refine ALK.rg (fun hb => opr_load rfl (eB rfl) rfl rfl) rfl rfl rfl ?_ | refine ALK.rg (fun hb => opr_loadRow rfl rfl (eB rfl) rfl (by assumption) rfl) rfl rfl rfl ?_ | refine ALK.rg (fun hb => opr_loadK0 rfl (eB rfl) rfl (by assumption) rfl) rfl rfl rfl ?_ | refine ALK.rg (fun hb => opr_loadK rfl (eB rfl) rfl (by assumption) rfl) rfl rfl rfl ?_); refine ALK.g (fun hb => opn_eqS (us := tVals y) (vs := tVals x) (by first | exact Ev.base rfl | exact Ev.cnd rfl (by assumption) | exact Ev.of (eB rfl) (ImOf.agg rfl ILes.refl) | exact Ev.of (Ev.cnd rfl (by assumption)) (ImOf.agg rfl ILes.refl) | exact Ev.of (eB rfl) (ImOf.im (ILe.nil rfl))) (by first | exact Ev.base rfl | exact Ev.cnd rfl (by assumption) | exact Ev.of (eB rfl) (ImOf.agg rfl ILes.refl) | exact Ev.of (Ev.cnd rfl (by assumption)) (ImOf.agg rfl ILes.refl) | exact Ev.of (eB rfl) (ImOf.im (ILe.nil rfl))) (eq_stp _ _ y x)) rfl rfl rfl ?_; refine ALK.n (opn_pick_or (eB rfl) rfl rfl (fun hb2 => by first | (rw [hb2]; rfl) | (rw [hb, hb2]; rfl) | simp_all [gd])) rfl ?_; refine nA rfl rfl ?_; refine ALK.nilD (by kernel_rfl) ?_; try show WP _ _ _ _ _ _)
    ((repeat apply WP.seq); apply WP.lreg; refine nM rfl rfl ?_; refine ALK.n OpN.ar rfl ?_; refine nA rfl rfl ?_; refine ALK.nil ?_; try show WP _ _ _ _ _ _)
    show ∃ _, _ ∧ _ ∧ _
    exact ⟨n + 1, by omega, by omega, Shift.sub [(0, 0)] rfl (SubE.cons rfl (SLe.im (ILe.int (by push_cast; rfl))) (SubE.cons rfl (SLe.im (ILe.bool hx2.symm)) SubE.a)) (SubH.cons rfl rfl (ObLe.blk SLes.a) SubH.nil)⟩
  · ((repeat apply WP.seq); refine WP.exit ?_; show WP _ _ _ _ _ _)
    have hn2 : n = (canL p s).length := by simp at h; omega
    subst hn2
    rw [List.take_length]
    have hd := doE_can v x
    have e1 : decide (x ∈ canL p s) = decide (doE p s x = 0) := by rw [decide_eq_decide]; exact hd.symm
    have e2 : overB p s = decide ((canL p s).length = 0) := by rw [Bool.eq_iff_iff, over_can v]; simp
    ((repeat apply WP.seq); apply WP.lreg; refine nM rfl rfl ?_; refine nM rfl rfl ?_; refine ALK.n OpN.cm rfl ?_; refine ALK.n OpN.cm rfl ?_; refine nM rfl rfl ?_; refine gM rfl rfl rfl rfl ?_; refine gM rfl rfl rfl rfl ?_; (first | refine ALK.g (fun hb => opn_len rfl (eC rfl hb)) rfl rfl rfl ?_ | refine ALK.g (fun hb => opn_lenRow rfl (eC rfl hb)) rfl rfl rfl ?_ | refine ALK.g (fun hb => opn_lenNil rfl (eC rfl hb)) rfl rfl rfl ?_); (first | refine ALK.g (fun hb => opn_cmp (eC rfl hb) (eB rfl) rfl) rfl rfl rfl ?_ | refine ALK.g (fun hb => opn_cmpB rfl (eC rfl hb) (eB rfl) rfl) rfl rfl rfl ?_); (first | refine ALK.g (fun hb => opn_cmp (eC rfl hb) (eC rfl hb) rfl) rfl rfl rfl ?_ | refine ALK.g (fun hb => opn_cmpB rfl (eC rfl hb) (eC rfl hb) rfl) rfl rfl rfl ?_); refine ALK.n (opn_pick_or (eB rfl) rfl rfl (fun hb2 => by first | (rw [hb2]; rfl) | (rw [hb, hb2]; rfl) | simp_all [gd])) rfl ?_; refine ALK.nil ?_; try show WP _ _ _ _ _ _)
    ((repeat apply WP.seq); refine WP.cond rfl (fun h => ?_) (fun h => ?_))
    · simp only [e1, e2] at h
      by_cases c1 : doE p s x = 0 <;> by_cases c2 : (canL p s).length = 0 <;> simp_all
    (refine WP.skip ?_; show WP _ _ _ _ _ _)
    ((repeat apply WP.seq); apply WP.lreg; refine ALK.n (opn_call stepsBegun_fn Evs.nil) rfl ?_; refine nM rfl rfl ?_; refine gM rfl rfl rfl rfl ?_; (first | refine ALK.g (fun hb => opn_cmp (eC rfl hb) (eB rfl) rfl) rfl rfl rfl ?_ | refine ALK.g (fun hb => opn_cmpB rfl (eC rfl hb) (eB rfl) rfl) rfl rfl rfl ?_); refine ALK.g (fun hb => opn_move (eC rfl hb)) rfl rfl rfl ?_; (first | refine ALK.g2 (fun hb => opn_load rfl (eB rfl) rfl) rfl rfl rfl ?_ | refine ALK.rg2 (fun hb => opr_load rfl (eB rfl) rfl rfl) rfl rfl rfl ?_ | refine ALK.rg2 (fun hb => opr_loadRow rfl rfl (eB rfl) rfl (by assumption) rfl) rfl rfl rfl ?_ | refine ALK.rg2 (fun hb => opr_loadK0 rfl (eB rfl) rfl (by assumption) rfl) rfl rfl rfl ?_ | refine ALK.rg2 (fun hb => opr_loadK rfl (eB rfl) rfl (by assumption) rfl) rfl rfl rfl ?_); (first | refine ALK.g2 (fun hb => opn_load rfl (eB rfl) rfl) rfl rfl rfl ?_ | refine ALK.rg2 (fun hb => opr_load rfl (eB rfl) rfl rfl) rfl rfl rfl ?_ | refine ALK.rg2 (fun hb => opr_loadRow rfl rfl (eB rfl) rfl (by assumption) rfl) rfl rfl rfl ?_ | refine ALK.rg2 (fun hb => opr_loadK0 rfl (eB rfl) rfl (by assumption) rfl) rfl rfl rfl ?_ | refine ALK.rg2 (fun hb => opr_loadK rfl (eB rfl) rfl (by assumption) rfl) rfl rfl rfl ?_); refine ALK.g2 (fun hb => opn_call (steps_Check_fn p (doS p s x) hB) (Evs.cons Ev.a (Evs.cons Ev.a Evs.nil))) rfl rfl rfl ?_; (first | refine ALK.g2 (fun hb => opn_cmp (eC rfl hb) (eB rfl) rfl) rfl rfl rfl ?_ | refine ALK.g2 (fun hb => opn_cmpB rfl (eC rfl hb) (eB rfl) rfl) rfl rfl rfl ?_); refine ALK.g (fun hb => opn_pick_or (eC rfl hb) rfl rfl (fun hb2 => by first | (rw [hb2]; rfl) | (rw [hb, hb2]; rfl) | simp_all [gd])) rfl rfl rfl ?_; refine ALK.n (opn_pick_and (eB rfl) rfl (fun hb2 => by first | exact hb2 | (rw [hb, hb2]; rfl) | simp_all [gd]) rfl) rfl ?_; refine nA rfl rfl ?_; refine ALK.nil ?_; try show WP _ _ _ _ _ _)
    refine WP.ret ?_
    refine RetOk.one Try.results13 (ResV.tmp rfl (ImOf.im (ILe.bool ?_)))
    by_cases hz : doE p s x = 0
    · have hv : checkState p (doS p s x) = 0 := by
        obtain ⟨hs, _⟩ := Step.of_mem (hd.1 hz)
        have : doS p s x = turnX p s x := by unfold doS; rw [if_pos hz]
        rw [this]
        exact valid_iff.2 (v.turn hs)
      simp [hz, hv]
    · simp [hz]
end Go.Proofs.Ytjgmbgfcffnanab
