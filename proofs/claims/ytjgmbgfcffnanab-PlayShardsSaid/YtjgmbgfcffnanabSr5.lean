/- The reference's DoOf, Rest, PlayOf and ResultsOf. -/
import Derived.Test.YtjgmbgfcffnanabSr4
namespace Go.Proofs.Ytjgmbgfcffnanab
open Go.RowKit

set_option maxRecDepth 100000 in
set_option maxHeartbeats 2000000 in
theorem DoOf_fn (p : Plan) (s : StT) (x : StepT) (hB : TxsB p.txns) : Fn (Cfg.mk Try.prog (ttAt ttl) ttl_ok.ok mixd) 48 [planV p, stV s, stpV x] (IV.tup [stV (doS p s x), IV.int (doE p s x)]) := by
  obtain ⟨kind, tn, sh⟩ := x
  have hx0 : ∀ e, ¬ e = 0 → doE p s ⟨kind, tn, sh⟩ = e → doS p s ⟨kind, tn, sh⟩ = st0 := fun e h1 h2 => by unfold doS; rw [h2, if_neg h1]
  refine Fn.of_wp _ Try.func48 rfl (by kernel_rfl) Try.ntmps48 rfl ?_
  intro F hD hG
  show WP _ _ _ _ _ ⟨[(0, .im (planV p)), (1, .im (stV s)), (2, .im (IV.agg [IV.int kind, IV.int tn, IV.int sh]))], [], 0⟩
  ((repeat apply WP.seq); apply WP.lreg; refine ALK.n (opn_box (eB rfl) Cs.a rfl) rfl ?_; refine ALK.n (opn_box (eB rfl) Cs.a rfl) rfl ?_; refine ALK.n (opn_box (eB rfl) Cs.a rfl) rfl ?_; refine ALK.a (opa_alloc rfl rfl) rfl ?_; refine nA rfl rfl ?_; refine ALK.nil ?_; try show WP _ _ _ _ _ _)
  ((repeat apply WP.seq); apply WP.lreg; (first | refine ALK.n (opn_load rfl (eB rfl) rfl) rfl ?_ | refine ALK.r OpR.ld rfl ?_); (first | refine ALK.n (opn_load rfl (eB rfl) rfl) rfl ?_ | refine ALK.r OpR.ld rfl ?_); refine ALK.n (opn_call (R_CheckState_fn p s hB) (Evs.cons Ev.a (Evs.cons Ev.a Evs.nil))) rfl ?_; refine nA rfl rfl ?_; refine ALK.nil ?_; try show WP _ _ _ _ _ _)
  ((repeat apply WP.seq); apply WP.lreg; refine nM rfl rfl ?_; refine ALK.n OpN.cm rfl ?_; refine ALK.nil ?_; try show WP _ _ _ _ _ _)
  ((repeat apply WP.seq); refine WP.cond rfl (fun h => ?_) (fun h => ?_))
  · have hne : ¬ checkState p s = 0 := by simpa using h
    have hr : doE p s ⟨kind, tn, sh⟩ = checkState p s := by unfold doE; rw [if_neg hne]
    rw [hx0 _ hne hr, hr]
    ((repeat apply WP.seq); apply WP.lreg; (first | refine ALK.n (opn_build rfl rfl rfl rfl Parts.nil) rfl ?_ | refine ALK.n (opn_buildA rfl rfl rfl rfl rfl Parts.nil) rfl ?_); refine nM rfl rfl ?_; (first | refine ALK.e (ope_store rfl (eB rfl) (eB rfl) Cs.a rfl rfl rfl) rfl rfl ?_ | refine ALK.e (ope_storeRow rfl rfl (eB rfl) (eB rfl) (oc_val rfl) rfl rfl (by assumption)) rfl rfl ?_); refine nA rfl rfl ?_; refine ALK.nil ?_; try show WP _ _ _ _ _ _)
    ((repeat apply WP.seq); refine WP.ret ?_; first | exact RetOk.one Try.results48 ResV.a | exact RetOk.tup Try.results48 rfl ResVs.a)
  (refine WP.skip ?_; show WP _ _ _ _ _ _)
  have h0 : checkState p s = 0 := by simpa using h
  have v := valid_iff.1 h0
  obtain ⟨hm, hm1, hm4, hn8, hall⟩ := plan_m v.plan
  have hnT : nT p = p.txns.length := rfl
  have hd : doE p s ⟨kind, tn, sh⟩ = if kind = 1 ∨ kind = 2 then
      if tn < 0 ∨ (nT p : Int) ≤ tn ∨ sh < 0 ∨ (mS p : Int) ≤ sh then 5
      else if hasX p ⟨kind, tn, sh⟩ = false then 5 else if didX s ⟨kind, tn, sh⟩ = true then 7 else if mayB p s kind tn.toNat sh.toNat = false then 6 else 0
    else 4 := by unfold doE; rw [if_pos h0]
  clear h
  ((repeat apply WP.seq); apply WP.lreg; (first | refine ALK.n (opn_field (o := 0) rfl (eB rfl)) rfl ?_ | refine ALK.n (opn_fieldOff (o := 0) rfl (eB rfl)) rfl ?_); (first | refine ALK.n (opn_load rfl (eB rfl) rfl) rfl ?_ | refine ALK.r OpR.ld rfl ?_); refine ALK.n OpN.cm rfl ?_; refine nM rfl rfl ?_; (first | refine ALK.g (fun hb => opn_field (o := 0) rfl (eB rfl)) rfl rfl rfl ?_ | refine ALK.g (fun hb => opn_fieldOff (o := 0) rfl (eB rfl)) rfl rfl rfl ?_); (first | refine ALK.g (fun hb => opn_load rfl (eC rfl hb) rfl) rfl rfl rfl ?_ | refine ALK.rg (fun hb => opr_load rfl (eC rfl hb) rfl rfl) rfl rfl rfl ?_ | refine ALK.rg (fun hb => opr_loadRow rfl rfl (eC rfl hb) rfl (by assumption) rfl) rfl rfl rfl ?_ | refine ALK.rg (fun hb => opr_loadK0 rfl (eC rfl hb) rfl (by assumption) rfl) rfl rfl rfl ?_ | refine ALK.rg (fun hb => opr_loadK rfl (eC rfl hb) rfl (by assumption) rfl) rfl rfl rfl ?_); (first | refine ALK.g (fun hb => opn_cmp (eC rfl hb) (eB rfl) rfl) rfl rfl rfl ?_ | refine ALK.g (fun hb => opn_cmpB rfl (eC rfl hb) (eB rfl) rfl) rfl rfl rfl ?_); refine ALK.n (opn_pick_and (eB rfl) rfl (fun hb2 => by first | exact hb2 | (rw [hb, hb2]; rfl) | simp_all [gd]) rfl) rfl ?_; refine ALK.nil ?_; try show WP _ _ _ _ _ _)
  ((repeat apply WP.seq); refine WP.cond rfl (fun h => ?_) (fun h => ?_))
  · have hr : doE p s ⟨kind, tn, sh⟩ = 4 := by
      rw [hd, if_neg]
      simp at h; omega
    rw [hx0 _ (by omega) hr, hr]
    ((repeat apply WP.seq); apply WP.lreg; (first | refine ALK.n (opn_build rfl rfl rfl rfl Parts.nil) rfl ?_ | refine ALK.n (opn_buildA rfl rfl rfl rfl rfl Parts.nil) rfl ?_); (first | refine ALK.e (ope_store rfl (eB rfl) (eB rfl) Cs.a rfl rfl rfl) rfl rfl ?_ | refine ALK.e (ope_storeRow rfl rfl (eB rfl) (eB rfl) (oc_val rfl) rfl rfl (by assumption)) rfl rfl ?_); refine nA rfl rfl ?_; refine ALK.nil ?_; try show WP _ _ _ _ _ _)
    ((repeat apply WP.seq); refine WP.ret ?_; first | exact RetOk.one Try.results48 ResV.a | exact RetOk.tup Try.results48 rfl ResVs.a)
  (refine WP.skip ?_; show WP _ _ _ _ _ _)
  have hkd : kind = 1 ∨ kind = 2 := by simp at h; omega
  rw [if_pos hkd] at hd
  clear h
  ((repeat apply WP.seq); apply WP.lreg; (first | refine ALK.n (opn_field (o := 1) rfl (eB rfl)) rfl ?_ | refine ALK.n (opn_fieldOff (o := 1) rfl (eB rfl)) rfl ?_); (first | refine ALK.n (opn_load rfl (eB rfl) rfl) rfl ?_ | refine ALK.r OpR.ld rfl ?_); (first | refine ALK.n (opn_field (o := 1) rfl (eB rfl)) rfl ?_ | refine ALK.n (opn_fieldOff (o := 1) rfl (eB rfl)) rfl ?_); (first | refine ALK.n (opn_load rfl (eB rfl) rfl) rfl ?_ | refine ALK.r OpR.ld rfl ?_); refine ALK.n OpN.ln rfl ?_; refine ALK.n OpN.ar rfl ?_; refine ALK.n (opn_call (within_fn _ _ _) (Evs.cons Ev.a (Evs.cons Ev.a (Evs.cons Ev.a Evs.nil)))) rfl ?_; refine ALK.n (opn_not (eB rfl)) rfl ?_; refine nM rfl rfl ?_; (first | refine ALK.g (fun hb => opn_field (o := 2) rfl (eB rfl)) rfl rfl rfl ?_ | refine ALK.g (fun hb => opn_fieldOff (o := 2) rfl (eB rfl)) rfl rfl rfl ?_); (first | refine ALK.g (fun hb => opn_load rfl (eC rfl hb) rfl) rfl rfl rfl ?_ | refine ALK.rg (fun hb => opr_load rfl (eC rfl hb) rfl rfl) rfl rfl rfl ?_ | refine ALK.rg (fun hb => opr_loadRow rfl rfl (eC rfl hb) rfl (by assumption) rfl) rfl rfl rfl ?_ | refine ALK.rg (fun hb => opr_loadK0 rfl (eC rfl hb) rfl (by assumption) rfl) rfl rfl rfl ?_ | refine ALK.rg (fun hb => opr_loadK rfl (eC rfl hb) rfl (by assumption) rfl) rfl rfl rfl ?_); (first | refine ALK.g (fun hb => opn_field (o := 0) rfl (eB rfl)) rfl rfl rfl ?_ | refine ALK.g (fun hb => opn_fieldOff (o := 0) rfl (eB rfl)) rfl rfl rfl ?_); (first | refine ALK.g (fun hb => opn_load rfl (eC rfl hb) rfl) rfl rfl rfl ?_ | refine ALK.rg (fun hb => opr_load rfl (eC rfl hb) rfl rfl) rfl rfl rfl ?_ | refine ALK.rg (fun hb => opr_loadRow rfl rfl (eC rfl hb) rfl (by assumption) rfl) rfl rfl rfl ?_ | refine ALK.rg (fun hb => opr_loadK0 rfl (eC rfl hb) rfl (by assumption) rfl) rfl rfl rfl ?_ | refine ALK.rg (fun hb => opr_loadK rfl (eC rfl hb) rfl (by assumption) rfl) rfl rfl rfl ?_); (first | refine ALK.g (fun hb => opn_arith (eC rfl hb) (eB rfl) (arith_in rfl (by omega) (by omega))) rfl rfl rfl ?_ | refine ALK.g (fun hb => opn_arith (eC rfl hb) (eB rfl) rfl) rfl rfl rfl ?_); refine ALK.g (fun hb => opn_call (within_fn _ _ _) (Evs.cons Ev.a (Evs.cons Ev.a (Evs.cons Ev.a Evs.nil)))) rfl rfl rfl ?_; refine ALK.g (fun hb => opn_not (eC rfl hb)) rfl rfl rfl ?_; refine ALK.n (opn_pick_or (eB rfl) rfl rfl (fun hb2 => by first | (rw [hb2]; rfl) | (rw [hb, hb2]; rfl) | simp_all [gd])) rfl ?_; refine ALK.nil ?_; try show WP _ _ _ _ _ _)
  ((repeat apply WP.seq); refine WP.cond rfl (fun h => ?_) (fun h => ?_))
  · have hr : doE p s ⟨kind, tn, sh⟩ = 5 := by
      rw [hd, if_pos]
      simp at h; omega
    rw [hx0 _ (by omega) hr, hr]
    ((repeat apply WP.seq); apply WP.lreg; (first | refine ALK.n (opn_build rfl rfl rfl rfl Parts.nil) rfl ?_ | refine ALK.n (opn_buildA rfl rfl rfl rfl rfl Parts.nil) rfl ?_); (first | refine ALK.e (ope_store rfl (eB rfl) (eB rfl) Cs.a rfl rfl rfl) rfl rfl ?_ | refine ALK.e (ope_storeRow rfl rfl (eB rfl) (eB rfl) (oc_val rfl) rfl rfl (by assumption)) rfl rfl ?_); refine nA rfl rfl ?_; refine ALK.nil ?_; try show WP _ _ _ _ _ _)
    ((repeat apply WP.seq); refine WP.ret ?_; first | exact RetOk.one Try.results48 ResV.a | exact RetOk.tup Try.results48 rfl ResVs.a)
  (refine WP.skip ?_; show WP _ _ _ _ _ _)
  have hrange : ¬ (tn < 0 ∨ (nT p : Int) ≤ tn ∨ sh < 0 ∨ (mS p : Int) ≤ sh) := by simp at h; omega
  rw [if_neg hrange] at hd
  clear h
  obtain ⟨n, rfl⟩ : ∃ n : Nat, tn = n := ⟨tn.toNat, by omega⟩
  obtain ⟨k, rfl⟩ : ∃ k : Nat, sh = k := ⟨sh.toNat, by omega⟩
  have hn : n < nT p := by omega
  have hk : k < mS p := by omega
  obtain ⟨ht, hok⟩ := hall n hn
  have e1 := prt_at (p := p) (n := n) hk
  have e2 := act_at (p := p) (n := n) hk
  have e3 := v.shp.rd hn
  have e4 := v.shp.wr hn
  have e5 := v.shp.rdk hn hk
  have e6 := v.shp.wrk hn hk
  ((repeat apply WP.seq); apply WP.ldraw; (first | refine ALK.n (opn_field (o := 1) rfl (eB rfl)) rfl ?_ | refine ALK.n (opn_fieldOff (o := 1) rfl (eB rfl)) rfl ?_); (first | refine ALK.n (opn_load rfl (eB rfl) rfl) rfl ?_ | refine ALK.r OpR.ld rfl ?_); (first | refine ALK.n (opn_field (o := 1) rfl (eB rfl)) rfl ?_ | refine ALK.n (opn_fieldOff (o := 1) rfl (eB rfl)) rfl ?_); (first | refine ALK.n (opn_load rfl (eB rfl) rfl) rfl ?_ | refine ALK.r OpR.ld rfl ?_); refine ALK.n OpN.ix rfl ?_; (first | refine ALK.n (opn_load rfl (eB rfl) rfl) rfl ?_ | refine ALK.r OpR.ld rfl ?_); (first | refine ALK.n (opn_field (o := 2) rfl (eB rfl)) rfl ?_ | refine ALK.n (opn_fieldOff (o := 2) rfl (eB rfl)) rfl ?_); (first | refine ALK.n (opn_load rfl (eB rfl) rfl) rfl ?_ | refine ALK.r OpR.ld rfl ?_); refine ALK.n OpN.ix rfl ?_; (first | refine ALK.n (opn_load rfl (eB rfl) rfl) rfl ?_ | refine ALK.r OpR.ld rfl ?_); refine nA rfl rfl ?_; refine ALK.nilD (by kernel_rfl) ?_; try show WP _ _ _ _ _ _)
  ((repeat apply WP.seq); apply WP.ldraw; (first | refine ALK.n (opn_load rfl (eB rfl) rfl) rfl ?_ | refine ALK.r OpR.ld rfl ?_); (first | refine ALK.n (opn_field (o := 1) rfl (eB rfl)) rfl ?_ | refine ALK.n (opn_fieldOff (o := 1) rfl (eB rfl)) rfl ?_); (first | refine ALK.n (opn_load rfl (eB rfl) rfl) rfl ?_ | refine ALK.r OpR.ld rfl ?_); refine ALK.n (opn_call (ref_PartOf_fn p (mS p) n (txN p n) hm hm1 hm4 (by omega) ht hok) (Evs.cons Ev.a (Evs.cons Ev.a Evs.nil))) rfl ?_; (first | refine ALK.n (opn_field (o := 2) rfl (eB rfl)) rfl ?_ | refine ALK.n (opn_fieldOff (o := 2) rfl (eB rfl)) rfl ?_); (first | refine ALK.n (opn_load rfl (eB rfl) rfl) rfl ?_ | refine ALK.r OpR.ld rfl ?_); refine ALK.n OpN.ix rfl ?_; (first | refine ALK.n (opn_load rfl (eB rfl) rfl) rfl ?_ | refine ALK.r OpR.ld rfl ?_); refine nA rfl rfl ?_; refine ALK.nilD (by kernel_rfl) ?_; try show WP _ _ _ _ _ _)
  ((repeat apply WP.seq); apply WP.lreg; (first | refine ALK.n (opn_field (o := 0) rfl (eB rfl)) rfl ?_ | refine ALK.n (opn_fieldOff (o := 0) rfl (eB rfl)) rfl ?_); (first | refine ALK.n (opn_load rfl (eB rfl) rfl) rfl ?_ | refine ALK.r OpR.ld rfl ?_); refine ALK.n OpN.cm rfl ?_; refine ALK.nil ?_; try show WP _ _ _ _ _ _)
  ((repeat apply WP.seq); refine WP.qshift (⟨[(10, .im (IV.bool (hasX p ⟨kind, n, k⟩))), (9, .im (IV.bool (didX s ⟨kind, n, k⟩))), (3, .im (IV.ptr (cP p))), (4, .im (IV.ptr (cSt s))), (5, .im (IV.ptr [IV.int kind, IV.int (n : Int), IV.int (k : Int)])), (6, .off 0 0)], [(0, .blk 64 [.im (IV.val (.slice none 0 0)), .im (IV.val (.slice none 0 0)), .im (IV.val (.slice none 0 0)), .im (IV.val (.slice none 0 0))])], 1⟩) (WP.cond rfl (fun h => ?_) (fun h => ?_)) ?_)
  · have hk2 : kind = 2 := by simpa using h
    have a1 : hasX p ⟨kind, n, k⟩ = act p n k := by unfold hasX; rw [if_pos hk2]; rfl
    have a2 : didX s ⟨kind, n, k⟩ = bAt s.wr n k := by unfold didX; rw [if_pos hk2]; rfl
    ((repeat apply WP.seq); apply WP.ldraw; (first | refine ALK.n (opn_field (o := 2) rfl (eB rfl)) rfl ?_ | refine ALK.n (opn_fieldOff (o := 2) rfl (eB rfl)) rfl ?_); (first | refine ALK.n (opn_load rfl (eB rfl) rfl) rfl ?_ | refine ALK.r OpR.ld rfl ?_); (first | refine ALK.n (opn_field (o := 1) rfl (eB rfl)) rfl ?_ | refine ALK.n (opn_fieldOff (o := 1) rfl (eB rfl)) rfl ?_); (first | refine ALK.n (opn_load rfl (eB rfl) rfl) rfl ?_ | refine ALK.r OpR.ld rfl ?_); refine ALK.n OpN.ix rfl ?_; (first | refine ALK.n (opn_load rfl (eB rfl) rfl) rfl ?_ | refine ALK.r OpR.ld rfl ?_); (first | refine ALK.n (opn_field (o := 2) rfl (eB rfl)) rfl ?_ | refine ALK.n (opn_fieldOff (o := 2) rfl (eB rfl)) rfl ?_); (first | refine ALK.n (opn_load rfl (eB rfl) rfl) rfl ?_ | refine ALK.r OpR.ld rfl ?_); refine ALK.n OpN.ix rfl ?_; (first | refine ALK.n (opn_load rfl (eB rfl) rfl) rfl ?_ | refine ALK.r OpR.ld rfl ?_); refine nA rfl rfl ?_; refine ALK.nilD (by kernel_rfl) ?_; try show WP _ _ _ _ _ _)
    ((repeat apply WP.seq); apply WP.ldraw; (first | refine ALK.n (opn_load rfl (eB rfl) rfl) rfl ?_ | refine ALK.r OpR.ld rfl ?_); (first | refine ALK.n (opn_field (o := 1) rfl (eB rfl)) rfl ?_ | refine ALK.n (opn_fieldOff (o := 1) rfl (eB rfl)) rfl ?_); (first | refine ALK.n (opn_load rfl (eB rfl) rfl) rfl ?_ | refine ALK.r OpR.ld rfl ?_); refine ALK.n (opn_call (ref_ActiveOf_fn p (mS p) n (txN p n) hm hm1 hm4 (by omega) ht hok) (Evs.cons Ev.a (Evs.cons Ev.a Evs.nil))) rfl ?_; (first | refine ALK.n (opn_field (o := 2) rfl (eB rfl)) rfl ?_ | refine ALK.n (opn_fieldOff (o := 2) rfl (eB rfl)) rfl ?_); (first | refine ALK.n (opn_load rfl (eB rfl) rfl) rfl ?_ | refine ALK.r OpR.ld rfl ?_); refine ALK.n OpN.ix rfl ?_; (first | refine ALK.n (opn_load rfl (eB rfl) rfl) rfl ?_ | refine ALK.r OpR.ld rfl ?_); refine nA rfl rfl ?_; refine ALK.nilD (by kernel_rfl) ?_; try show WP _ _ _ _ _ _)
    show Shift _ _ _ _
    exact Shift.sub [(0, 0)] rfl (SubE.cons rfl (SLe.im (ILe.bool a1.symm)) (SubE.cons rfl (SLe.im (ILe.bool a2.symm)) SubE.a)) SubH.a
  · have hk2 : ¬ kind = 2 := by simpa using h
    have a1 : hasX p ⟨kind, n, k⟩ = prt p n k := by unfold hasX; rw [if_neg hk2]; rfl
    have a2 : didX s ⟨kind, n, k⟩ = bAt s.rd n k := by unfold didX; rw [if_neg hk2]; rfl
    refine WP.skip ?_; show Shift _ _ _ _
    exact Shift.sub [(0, 0)] rfl (SubE.cons rfl (SLe.im (ILe.bool a1.symm)) (SubE.cons rfl (SLe.im (ILe.bool a2.symm)) SubE.a)) SubH.a
  ((repeat apply WP.seq); apply WP.block)
  ((repeat apply WP.seq); apply WP.lreg; refine nM rfl rfl ?_; refine ALK.n (opn_not (eB rfl)) rfl ?_; refine nA rfl rfl ?_; refine ALK.nil ?_; try show WP _ _ _ _ _ _)
  ((repeat apply WP.seq); refine WP.cond rfl (fun h => ?_) (fun h => ?_))
  · have hr : doE p s ⟨kind, n, k⟩ = 5 := by rw [hd, if_pos (by simpa using h)]
    rw [hx0 _ (by omega) hr, hr]
    ((repeat apply WP.seq); apply WP.lreg; (first | refine ALK.n (opn_build rfl rfl rfl rfl Parts.nil) rfl ?_ | refine ALK.n (opn_buildA rfl rfl rfl rfl rfl Parts.nil) rfl ?_); (first | refine ALK.e (ope_store rfl (eB rfl) (eB rfl) Cs.a rfl rfl rfl) rfl rfl ?_ | refine ALK.e (ope_storeRow rfl rfl (eB rfl) (eB rfl) (oc_val rfl) rfl rfl (by assumption)) rfl rfl ?_); refine nA rfl rfl ?_; refine ALK.nil ?_; try show WP _ _ _ _ _ _)
    ((repeat apply WP.seq); refine WP.ret ?_; first | exact RetOk.one Try.results48 ResV.a | exact RetOk.tup Try.results48 rfl ResVs.a)
  rw [if_neg (by simpa using h)] at hd
  clear h
  ((repeat apply WP.seq); apply WP.lreg; refine nM rfl rfl ?_; refine nA rfl rfl ?_; refine ALK.nil ?_; try show WP _ _ _ _ _ _)
  ((repeat apply WP.seq); refine WP.cond rfl (fun h => ?_) (fun h => ?_))
  · have hr : doE p s ⟨kind, n, k⟩ = 7 := by rw [hd, if_pos (by simpa using h)]
    rw [hx0 _ (by omega) hr, hr]
    ((repeat apply WP.seq); apply WP.lreg; (first | refine ALK.n (opn_build rfl rfl rfl rfl Parts.nil) rfl ?_ | refine ALK.n (opn_buildA rfl rfl rfl rfl rfl Parts.nil) rfl ?_); (first | refine ALK.e (ope_store rfl (eB rfl) (eB rfl) Cs.a rfl rfl rfl) rfl rfl ?_ | refine ALK.e (ope_storeRow rfl rfl (eB rfl) (eB rfl) (oc_val rfl) rfl rfl (by assumption)) rfl rfl ?_); refine nA rfl rfl ?_; refine ALK.nil ?_; try show WP _ _ _ _ _ _)
    ((repeat apply WP.seq); refine WP.ret ?_; first | exact RetOk.one Try.results48 ResV.a | exact RetOk.tup Try.results48 rfl ResVs.a)
  rw [if_neg (by simpa using h)] at hd
  clear h
  ((repeat apply WP.seq); apply WP.lreg; (first | refine ALK.n (opn_load rfl (eB rfl) rfl) rfl ?_ | refine ALK.r OpR.ld rfl ?_); (first | refine ALK.n (opn_load rfl (eB rfl) rfl) rfl ?_ | refine ALK.r OpR.ld rfl ?_); (first | refine ALK.n (opn_load rfl (eB rfl) rfl) rfl ?_ | refine ALK.r OpR.ld rfl ?_); refine ALK.n (opn_call (R_may_fn p s kind n k v hkd hn hk) (Evs.cons Ev.a (Evs.cons Ev.a (Evs.cons Ev.a Evs.nil)))) rfl ?_; refine ALK.n (opn_not (eB rfl)) rfl ?_; refine nA rfl rfl ?_; refine ALK.nil ?_; try show WP _ _ _ _ _ _)
  ((repeat apply WP.seq); refine WP.cond rfl (fun h => ?_) (fun h => ?_))
  · have hr : doE p s ⟨kind, n, k⟩ = 6 := by rw [hd]; exact if_pos (by simpa using h)
    rw [hx0 _ (by omega) hr, hr]
    ((repeat apply WP.seq); apply WP.lreg; (first | refine ALK.n (opn_build rfl rfl rfl rfl Parts.nil) rfl ?_ | refine ALK.n (opn_buildA rfl rfl rfl rfl rfl Parts.nil) rfl ?_); (first | refine ALK.e (ope_store rfl (eB rfl) (eB rfl) Cs.a rfl rfl rfl) rfl rfl ?_ | refine ALK.e (ope_storeRow rfl rfl (eB rfl) (eB rfl) (oc_val rfl) rfl rfl (by assumption)) rfl rfl ?_); refine nA rfl rfl ?_; refine ALK.nil ?_; try show WP _ _ _ _ _ _)
    ((repeat apply WP.seq); refine WP.ret ?_; first | exact RetOk.one Try.results48 ResV.a | exact RetOk.tup Try.results48 rfl ResVs.a)
  have hmay : mayB p s kind n k = true := by simpa using h
  have hstep : Step p s kind n k := ⟨hkd, hn, hk, hmay⟩
  have hr : doE p s ⟨kind, n, k⟩ = 0 := by rw [hd]; exact if_neg (by rw [Int.toNat_natCast, Int.toNat_natCast, hmay]; simp)
  have hr2 : doS p s ⟨kind, n, k⟩ = turnS p s kind n k := by unfold doS; rw [if_pos hr]; rfl
  clear h
  rw [hr2, hr]
  (refine WP.skip ?_; show WP _ _ _ _ _ _)
  ((repeat apply WP.seq); apply WP.lreg; (first | refine ALK.n (opn_load rfl (eB rfl) rfl) rfl ?_ | refine ALK.r OpR.ld rfl ?_); (first | refine ALK.n (opn_load rfl (eB rfl) rfl) rfl ?_ | refine ALK.r OpR.ld rfl ?_); (first | refine ALK.n (opn_load rfl (eB rfl) rfl) rfl ?_ | refine ALK.r OpR.ld rfl ?_); refine ALK.n (opn_call (R_done_fn p s kind n k v hB hstep) (Evs.cons Ev.a (Evs.cons Ev.a (Evs.cons Ev.a Evs.nil)))) rfl ?_; (first | refine ALK.e (ope_store rfl (eB rfl) (eB rfl) Cs.a rfl rfl rfl) rfl rfl ?_ | refine ALK.e (ope_storeRow rfl rfl (eB rfl) (eB rfl) (oc_val rfl) rfl rfl (by assumption)) rfl rfl ?_); refine nA rfl rfl ?_; refine ALK.nil ?_; try show WP _ _ _ _ _ _)
  ((repeat apply WP.seq); refine WP.ret ?_; first | exact RetOk.one Try.results48 ResV.a | exact RetOk.tup Try.results48 rfl ResVs.a)

/- played to the end -/
def onF (p : Plan) (picks : List Int) (s : StT) (n : Nat) : StT × Nat := onS p picks (togo p s) s n
theorem pick_nn (picks : List Int) (n : Nat) : 0 ≤ pickN picks n := by
  unfold pickN
  split
  · split <;> omega
  · exact Int.le_refl _
theorem nxt_at {p : Plan} {s : StT} (v : Valid p s) (ho : overB p s = false) (picks : List Int) (n : Nat) : ∃ x, x ∈ canL p s ∧ nxt p picks s n = turnX p s x ∧ (canL p s)[(pickN picks n % ((canL p s).length : Int)).toNat]? = some x ∧ 0 < (canL p s).length := by
  have hne : canL p s ≠ [] := fun e => by rw [(over_can v).2 e] at ho; cases ho
  have hlen : 0 < (canL p s).length := List.length_pos_iff.2 hne
  have hp0 := pick_nn picks n
  have h1 : (pickN picks n).tmod ((canL p s).length : Int) = pickN picks n % ((canL p s).length : Int) := Int.tmod_eq_emod_of_nonneg hp0
  have h2 : 0 ≤ pickN picks n % ((canL p s).length : Int) := Int.emod_nonneg _ (by omega)
  have h3 : pickN picks n % ((canL p s).length : Int) < ((canL p s).length : Int) := Int.emod_lt_of_pos _ (by omega)
  have hx := getD_of_lt (l := canL p s) ⟨1, 0, 0⟩ (show (pickN picks n % ((canL p s).length : Int)).toNat < _ by omega)
  exact ⟨_, List.mem_of_getElem? hx, by unfold nxt; rw [h1], hx, hlen⟩
theorem onF_over {p : Plan} {picks : List Int} {s : StT} {n : Nat} (h : overB p s = true) : onF p picks s n = (s, n) := onS_over h
theorem onF_go {p : Plan} {picks : List Int} {s : StT} {n : Nat} (v : Valid p s) (h : overB p s = false) : Valid p (nxt p picks s n) ∧ togo p s = togo p (nxt p picks s n) + 1 ∧ onF p picks s n = onF p picks (nxt p picks s n) (n + 1) := by
  obtain ⟨x, hx, he, _⟩ := nxt_at v h picks n
  have hs := (Step.of_mem hx).1
  have ht : togo p s = togo p (nxt p picks s n) + 1 := by rw [he]; exact togo_turn v hs
  refine ⟨by rw [he]; exact v.turn hs, ht, ?_⟩
  unfold onF
  rw [ht, onS_go h]
theorem onF_tail {p : Plan} {picks : List Int} : ∀ {f : Nat} {s : StT} {n m : Nat}, picks.length ≤ n → onS p picks f s n = ((onS p [] f s m).1, n + ((onS p [] f s m).2 - m)) ∧ m ≤ (onS p [] f s m).2
  | 0, s, n, m, h => by unfold onS; exact ⟨by simp, Nat.le_refl _⟩
  | f + 1, s, n, m, h => by
    have hp : pickN picks n = pickN [] m := by
      unfold pickN
      rw [List.getElem?_eq_none h]
      simp
    have hn : nxt p picks s n = nxt p [] s m := by unfold nxt; rw [hp]
    cases ho : overB p s with
    | true => rw [onS_over ho, onS_over ho]; exact ⟨by simp, Nat.le_refl _⟩
    | false =>
      rw [onS_go ho, onS_go ho, hn]
      obtain ⟨a, b⟩ := onF_tail (picks := picks) (f := f) (s := nxt p [] s m) (n := n + 1) (m := m + 1) (by omega)
      rw [a]
      refine ⟨?_, by omega⟩
      simp only [Prod.mk.injEq, true_and]
      omega
set_option maxRecDepth 100000 in
set_option maxHeartbeats 2000000 in
theorem Rest_fn (p : Plan) (s0 : StT) (v0 : Valid p s0) (hB : TxsB p.txns) : Fn (Cfg.mk Try.prog (ttAt ttl) ttl_ok.ok mixd) 85 [planV p, stV s0] (IV.tup [stV (onF p [] s0 0).1, IV.int ((onF p [] s0 0).2 : Int)]) := by
  have h64 := togo_le v0
  refine Fn.of_wp _ Try.func85 rfl (by kernel_rfl) Try.ntmps85 rfl ?_
  intro F hD hG
  ((repeat apply WP.seq); apply WP.lreg; refine ALK.n (opn_box (eB rfl) Cs.a rfl) rfl ?_; refine ALK.a (opa_box (eB rfl) Cs.a) rfl ?_; refine ALK.a (opa_alloc rfl rfl) rfl ?_; refine nA rfl rfl ?_; refine ALK.nil ?_; try show WP _ _ _ _ _ _)
  ((repeat apply WP.seq); apply WP.lreg; refine nA rfl rfl ?_; refine ALK.nil ?_; try show WP _ _ _ _ _ _)
  ((repeat apply WP.seq); apply WP.block)
  refine WP.loop (fun c : StT × Nat => ⟨[(6, .im (IV.int c.2)), (2, .im (IV.ptr (cP p))), (3, .off 0 0), (4, .off 1 0)], [(0, .blk 64 [.im (intsV c.1.store), .im (bbV c.1.rd), .im (bbV c.1.wr), .im (iiV c.1.vals)]), (1, .blk 64 [.im (IV.val (.slice none 0 0)), .im (IV.val (.slice none 0 0)), .im (IV.val (.slice none 0 0)), .im (IV.val (.slice none 0 0))])], 2⟩) (fun c => Valid p c.1 ∧ onF p [] c.1 c.2 = onF p [] s0 0 ∧ c.2 + togo p c.1 ≤ 64) (fun c => togo p c.1) (s0, 0) ⟨v0, rfl, by simp only; omega⟩ (Shift.sub [(0, 0), (1, 1)] rfl SubE.a (SubH.cons rfl rfl (ObLe.blk SLes.a) (SubH.cons rfl rfl (ObLe.blk SLes.a) SubH.nil))) ?_
  rintro ⟨s, n⟩ ⟨v, he, hn⟩
  simp only at v he hn
  ((repeat apply WP.seq); apply WP.lreg; (first | refine ALK.n (opn_load rfl (eB rfl) rfl) rfl ?_ | refine ALK.r OpR.ld rfl ?_); (first | refine ALK.n (opn_load rfl (eB rfl) rfl) rfl ?_ | refine ALK.r OpR.ld rfl ?_); refine ALK.n (opn_call (OverOf_fn p s v) (Evs.cons Ev.a (Evs.cons Ev.a Evs.nil))) rfl ?_; refine ALK.n (opn_not (eB rfl)) rfl ?_; refine ALK.nil ?_; try show WP _ _ _ _ _ _)
  ((repeat apply WP.seq); refine WP.cond rfl (fun h => ?_) (fun h => ?_))
  · (refine WP.skip ?_; show WP _ _ _ _ _ _)
    have ho : overB p s = false := by simpa using h
    obtain ⟨v2, ht, hgo⟩ := onF_go (picks := []) (n := n) v ho
    obtain ⟨x, hx, hnx, hat, hlen⟩ := nxt_at v ho [] n
    have hz : (pickN [] n % ((canL p s).length : Int)).toNat = 0 := by
      have : pickN [] n = 0 := by simp [pickN]
      rw [this]; simp
    rw [hz] at hat
    obtain ⟨hst, a1, a2, a3, a4⟩ := Step.of_mem hx
    obtain ⟨kind, tn, sh⟩ := x
    simp only at a1 a2 a3 a4 hst
    obtain ⟨i, rfl⟩ : ∃ i : Nat, tn = i := ⟨tn.toNat, by omega⟩
    obtain ⟨k, rfl⟩ : ∃ k : Nat, sh = k := ⟨sh.toNat, by omega⟩
    have hnx2 : nxt p [] s n = turnS p s kind i k := hnx
    have hst2 : Step p s kind i k := hst
    ((repeat apply WP.seq); apply WP.block)
    ((repeat apply WP.seq); apply WP.ldraw; (first | refine ALK.n (opn_load rfl (eB rfl) rfl) rfl ?_ | refine ALK.r OpR.ld rfl ?_); (first | refine ALK.n (opn_load rfl (eB rfl) rfl) rfl ?_ | refine ALK.r OpR.ld rfl ?_); (first | refine ALK.n (opn_load rfl (eB rfl) rfl) rfl ?_ | refine ALK.r OpR.ld rfl ?_); (first | refine ALK.n (opn_load rfl (eB rfl) rfl) rfl ?_ | refine ALK.r OpR.ld rfl ?_); refine ALK.n (opn_call (CanOf_fn p s v) (Evs.cons Ev.a (Evs.cons Ev.a Evs.nil))) rfl ?_; refine ALK.n (opn_index (i := 0) rfl (eB rfl) (eB rfl) (by omega) hat) rfl ?_; (first | refine ALK.n (opn_load rfl (eB rfl) rfl) rfl ?_ | refine ALK.r OpR.ld rfl ?_); refine ALK.n (opn_call (R_done_fn p s kind i k v hB hst2) (Evs.cons Ev.a (Evs.cons Ev.a (Evs.cons Ev.a Evs.nil)))) rfl ?_; (first | refine ALK.e (ope_store rfl (eB rfl) (eB rfl) Cs.a rfl rfl rfl) rfl rfl ?_ | refine ALK.e (ope_storeRow rfl rfl (eB rfl) (eB rfl) (oc_val rfl) rfl rfl (by assumption)) rfl rfl ?_); refine ALK.nilD (by kernel_rfl) ?_; try show WP _ _ _ _ _ _)
    ((repeat apply WP.seq); apply WP.lreg; refine nM rfl rfl ?_; refine ALK.n OpN.ar rfl ?_; refine nA rfl rfl ?_; refine ALK.nil ?_; try show WP _ _ _ _ _ _)
    show ∃ _, _ ∧ _ ∧ _
    rw [hgo, hnx2] at he
    rw [hnx2] at v2 ht
    exact ⟨(turnS p s kind i k, n + 1), ⟨v2, he, by simp only; omega⟩, by simp only; omega, Shift.sub [(0, 0), (1, 1)] rfl SubE.a (SubH.cons rfl rfl (ObLe.blk SLes.a) (SubH.cons rfl rfl (ObLe.blk SLes.a) SubH.nil))⟩
  · ((repeat apply WP.seq); refine WP.exit ?_; show WP _ _ _ _ _ _)
    have ho : overB p s = true := by simpa using h
    rw [onF_over ho] at he
    rw [← he]
    ((repeat apply WP.seq); apply WP.lreg; (first | refine ALK.n (opn_load rfl (eB rfl) rfl) rfl ?_ | refine ALK.r OpR.ld rfl ?_); refine nM rfl rfl ?_; (first | refine ALK.e (ope_store rfl (eB rfl) (eB rfl) Cs.a rfl rfl rfl) rfl rfl ?_ | refine ALK.e (ope_storeRow rfl rfl (eB rfl) (eB rfl) (oc_val rfl) rfl rfl (by assumption)) rfl rfl ?_); refine nA rfl rfl ?_; refine ALK.nil ?_; try show WP _ _ _ _ _ _)
    ((repeat apply WP.seq); refine WP.ret ?_; first | exact RetOk.one Try.results85 ResV.a | exact RetOk.tup Try.results85 rfl ResVs.a)
def playE (p : Plan) (st picks : List Int) : Int := if beginE p st = 0 then (if 200 < picks.length then 2 else 0) else beginE p st
def playS (p : Plan) (st picks : List Int) : StT := if playE p st picks = 0 then (onF p picks (beginS p st) 0).1 else st0
def playN (p : Plan) (st picks : List Int) : Int := if playE p st picks = 0 then ((onF p picks (beginS p st) 0).2 : Int) else 0
theorem playE_zero {p : Plan} {st picks : List Int} (h : playE p st picks = 0) : beginE p st = 0 ∧ picks.length ≤ 200 := by
  unfold playE at h
  split at h
  · rename_i h0
    split at h
    · cases h
    · exact ⟨h0, by omega⟩
  · exact absurd h (by assumption)
theorem play_no {p : Plan} {st picks : List Int} {e : Int} (h1 : ¬ e = 0) (h : playE p st picks = e) : playS p st picks = st0 ∧ playN p st picks = 0 := by
  unfold playS playN
  rw [h, if_neg h1, if_neg h1]
  exact ⟨rfl, rfl⟩
set_option maxRecDepth 100000 in
set_option maxHeartbeats 4000000 in
theorem PlayOf_fn (p : Plan) (st picks : List Int) (hB : TxsB p.txns) (hpk : ∀ x ∈ picks, I64 x) : Fn (Cfg.mk Try.prog (ttAt ttl) ttl_ok.ok mixd) 31 [planV p, intsV st, intsV picks] (IV.tup [stV (playS p st picks), IV.int (playN p st picks), IV.int (playE p st picks)]) := by
  refine Fn.of_wp _ Try.func31 rfl (by kernel_rfl) Try.ntmps31 rfl ?_
  intro F hD hG
  ((repeat apply WP.seq); apply WP.lreg; refine ALK.n (opn_box (eB rfl) Cs.a rfl) rfl ?_; refine ALK.a (opa_alloc rfl rfl) rfl ?_; refine nA rfl rfl ?_; refine nA rfl rfl ?_; refine ALK.nil ?_; try show WP _ _ _ _ _ _)
  ((repeat apply WP.seq); apply WP.lreg; (first | refine ALK.n (opn_load rfl (eB rfl) rfl) rfl ?_ | refine ALK.r OpR.ld rfl ?_); refine ALK.n (opn_call (ref_CheckPlan_fn p hB) (Evs.cons Ev.a Evs.nil)) rfl ?_; refine nA rfl rfl ?_; refine ALK.nil ?_; try show WP _ _ _ _ _ _)
  ((repeat apply WP.seq); apply WP.lreg; refine nM rfl rfl ?_; refine ALK.n OpN.cm rfl ?_; refine ALK.nil ?_; try show WP _ _ _ _ _ _)
  ((repeat apply WP.seq); refine WP.cond rfl (fun h => ?_) (fun h => ?_))
  · have hne : ¬ checkPlan p = 0 := by simpa using h
    have hr0 : beginE p st = checkPlan p := by unfold beginE; rw [if_neg hne]
    have hr : playE p st picks = checkPlan p := by unfold playE; rw [hr0, if_neg hne]
    obtain ⟨q1, q2⟩ := play_no hne hr
    rw [q1, q2, hr]
    ((repeat apply WP.seq); apply WP.lreg; (first | refine ALK.n (opn_build rfl rfl rfl rfl Parts.nil) rfl ?_ | refine ALK.n (opn_buildA rfl rfl rfl rfl rfl Parts.nil) rfl ?_); refine nM rfl rfl ?_; (first | refine ALK.e (ope_store rfl (eB rfl) (eB rfl) Cs.a rfl rfl rfl) rfl rfl ?_ | refine ALK.e (ope_storeRow rfl rfl (eB rfl) (eB rfl) (oc_val rfl) rfl rfl (by assumption)) rfl rfl ?_); refine nA rfl rfl ?_; refine nA rfl rfl ?_; refine ALK.nil ?_; try show WP _ _ _ _ _ _)
    ((repeat apply WP.seq); refine WP.ret ?_; first | exact RetOk.one Try.results31 ResV.a | exact RetOk.tup Try.results31 rfl ResVs.a)
  (refine WP.skip ?_; show WP _ _ _ _ _ _)
  have hp : checkPlan p = 0 := by simpa using h
  clear h
  ((repeat apply WP.seq); apply WP.lreg; refine nM rfl rfl ?_; refine ALK.n (opn_call (IsStore_fn st) (Evs.cons Ev.a Evs.nil)) rfl ?_; refine ALK.n (opn_not (eB rfl)) rfl ?_; refine ALK.nil ?_; try show WP _ _ _ _ _ _)
  ((repeat apply WP.seq); refine WP.cond rfl (fun h => ?_) (fun h => ?_))
  · have hne : ¬ st.length = 8 := by simpa using h
    have hr0 : beginE p st = 1 := by unfold beginE; rw [if_pos hp, if_neg hne]
    have hr : playE p st picks = 1 := by unfold playE; rw [hr0]; rfl
    obtain ⟨q1, q2⟩ := play_no (by omega) hr
    rw [q1, q2, hr]
    ((repeat apply WP.seq); apply WP.lreg; (first | refine ALK.n (opn_build rfl rfl rfl rfl Parts.nil) rfl ?_ | refine ALK.n (opn_buildA rfl rfl rfl rfl rfl Parts.nil) rfl ?_); (first | refine ALK.e (ope_store rfl (eB rfl) (eB rfl) Cs.a rfl rfl rfl) rfl rfl ?_ | refine ALK.e (ope_storeRow rfl rfl (eB rfl) (eB rfl) (oc_val rfl) rfl rfl (by assumption)) rfl rfl ?_); refine nA rfl rfl ?_; refine nA rfl rfl ?_; refine ALK.nil ?_; try show WP _ _ _ _ _ _)
    ((repeat apply WP.seq); refine WP.ret ?_; first | exact RetOk.one Try.results31 ResV.a | exact RetOk.tup Try.results31 rfl ResVs.a)
  (refine WP.skip ?_; show WP _ _ _ _ _ _)
  have hst : st.length = 8 := by simpa using h
  have h0 : beginE p st = 0 := by unfold beginE; rw [if_pos hp, if_pos hst]
  clear h
  ((repeat apply WP.seq); apply WP.lreg; refine nM rfl rfl ?_; refine ALK.n OpN.ln rfl ?_; refine ALK.n OpN.cm rfl ?_; refine ALK.nil ?_; try show WP _ _ _ _ _ _)
  ((repeat apply WP.seq); refine WP.cond rfl (fun h => ?_) (fun h => ?_))
  · have hr : playE p st picks = 2 := by unfold playE; rw [if_pos h0, if_pos (by simp at h; omega)]
    obtain ⟨q1, q2⟩ := play_no (by omega) hr
    rw [q1, q2, hr]
    ((repeat apply WP.seq); apply WP.lreg; (first | refine ALK.n (opn_build rfl rfl rfl rfl Parts.nil) rfl ?_ | refine ALK.n (opn_buildA rfl rfl rfl rfl rfl Parts.nil) rfl ?_); (first | refine ALK.e (ope_store rfl (eB rfl) (eB rfl) Cs.a rfl rfl rfl) rfl rfl ?_ | refine ALK.e (ope_storeRow rfl rfl (eB rfl) (eB rfl) (oc_val rfl) rfl rfl (by assumption)) rfl rfl ?_); refine nA rfl rfl ?_; refine nA rfl rfl ?_; refine ALK.nil ?_; try show WP _ _ _ _ _ _)
    ((repeat apply WP.seq); refine WP.ret ?_; first | exact RetOk.one Try.results31 ResV.a | exact RetOk.tup Try.results31 rfl ResVs.a)
  (refine WP.skip ?_; show WP _ _ _ _ _ _)
  have h200 : picks.length ≤ 200 := by simp at h; omega
  have hr : playE p st picks = 0 := by unfold playE; rw [if_pos h0, if_neg (by omega)]
  have hrS : playS p st picks = (onF p picks (beginS p st) 0).1 := by unfold playS; rw [if_pos hr]
  have hrN : playN p st picks = ((onF p picks (beginS p st) 0).2 : Int) := by unfold playN; rw [if_pos hr]
  have vb := Valid.begin h0
  have h64 := togo_le vb
  clear h
  rw [hrS, hrN, hr]
  ((repeat apply WP.seq); apply WP.lreg; (first | refine ALK.n (opn_load rfl (eB rfl) rfl) rfl ?_ | refine ALK.r OpR.ld rfl ?_); refine nM rfl rfl ?_; refine ALK.n (opn_call (BeginOf_fn p st h0) (Evs.cons Ev.a (Evs.cons Ev.a Evs.nil))) rfl ?_; refine ALK.a (opa_alloc rfl rfl) rfl ?_; (first | refine ALK.e (ope_store rfl (eB rfl) (eB rfl) Cs.a rfl rfl rfl) rfl rfl ?_ | refine ALK.e (ope_storeRow rfl rfl (eB rfl) (eB rfl) (oc_val rfl) rfl rfl (by assumption)) rfl rfl ?_); refine ALK.nil ?_; try show WP _ _ _ _ _ _)
  ((repeat apply WP.seq); apply WP.lreg; refine nA rfl rfl ?_; refine ALK.nil ?_; try show WP _ _ _ _ _ _)
  ((repeat apply WP.seq); apply WP.lreg; refine nA rfl rfl ?_; refine ALK.nil ?_; try show WP _ _ _ _ _ _)
  ((repeat apply WP.seq); apply WP.block)
  refine WP.loop (fun c : StT × Nat => ⟨[(12, .im (IV.int c.2)), (11, .im (IV.int c.2)), (2, .im (intsV picks)), (3, .im (IV.ptr (cP p))), (6, .off 0 0), (10, .off 1 0)], [(0, .blk 64 [.im (IV.val (.slice none 0 0)), .im (IV.val (.slice none 0 0)), .im (IV.val (.slice none 0 0)), .im (IV.val (.slice none 0 0))]), (1, .blk 64 [.im (intsV c.1.store), .im (bbV c.1.rd), .im (bbV c.1.wr), .im (iiV c.1.vals)])], 2⟩) (fun c => Valid p c.1 ∧ onF p picks c.1 c.2 = onF p picks (beginS p st) 0 ∧ c.2 + togo p c.1 ≤ 64) (fun c => togo p c.1) (beginS p st, 0) ⟨vb, rfl, by simp only; omega⟩ (Shift.sub [(0, 0), (1, 1)] rfl SubE.a (SubH.cons rfl rfl (ObLe.blk SLes.a) (SubH.cons rfl rfl (ObLe.blk SLes.a) SubH.nil))) ?_
  rintro ⟨s, n⟩ ⟨v, he, hn⟩
  simp only at v he hn
  ((repeat apply WP.seq); apply WP.lreg; refine nM rfl rfl ?_; refine nM rfl rfl ?_; refine ALK.n OpN.ln rfl ?_; refine ALK.n OpN.cm rfl ?_; refine nM rfl rfl ?_; (first | refine ALK.g (fun hb => opn_load rfl (eB rfl) rfl) rfl rfl rfl ?_ | refine ALK.rg (fun hb => opr_load rfl (eB rfl) rfl rfl) rfl rfl rfl ?_ | refine ALK.rg (fun hb => opr_loadRow rfl rfl (eB rfl) rfl (by assumption) rfl) rfl rfl rfl ?_ | refine ALK.rg (fun hb => opr_loadK0 rfl (eB rfl) rfl (by assumption) rfl) rfl rfl rfl ?_ | refine ALK.rg (fun hb => opr_loadK rfl (eB rfl) rfl (by assumption) rfl) rfl rfl rfl ?_); (first | refine ALK.g (fun hb => opn_load rfl (eB rfl) rfl) rfl rfl rfl ?_ | refine ALK.rg (fun hb => opr_load rfl (eB rfl) rfl rfl) rfl rfl rfl ?_ | refine ALK.rg (fun hb => opr_loadRow rfl rfl (eB rfl) rfl (by assumption) rfl) rfl rfl rfl ?_ | refine ALK.rg (fun hb => opr_loadK0 rfl (eB rfl) rfl (by assumption) rfl) rfl rfl rfl ?_ | refine ALK.rg (fun hb => opr_loadK rfl (eB rfl) rfl (by assumption) rfl) rfl rfl rfl ?_); refine ALK.g (fun hb => opn_call (OverOf_fn p s v) (Evs.cons Ev.a (Evs.cons Ev.a Evs.nil))) rfl rfl rfl ?_; refine ALK.g (fun hb => opn_not (eC rfl hb)) rfl rfl rfl ?_; refine ALK.n (opn_pick_and (eB rfl) rfl (fun hb2 => by first | exact hb2 | (rw [hb, hb2]; rfl) | simp_all [gd]) rfl) rfl ?_; refine ALK.nil ?_; try show WP _ _ _ _ _ _)
  ((repeat apply WP.seq); refine WP.cond rfl (fun h => ?_) (fun h => ?_))
  · (refine WP.skip ?_; show WP _ _ _ _ _ _)
    have h2 : n < picks.length ∧ overB p s = false := by simpa using h
    obtain ⟨hnl, ho⟩ := h2
    clear h
    obtain ⟨pk, hpkn⟩ := get_at hnl
    have hpi := hpk pk (List.mem_of_getElem? hpkn)
    have hpi' : -9223372036854775808 ≤ pk ∧ pk ≤ 9223372036854775807 := hpi
    have hpN : pickN picks n = if pk < 0 then -(pk + 1) else pk := by unfold pickN; rw [hpkn]
    obtain ⟨v2, ht, hgo⟩ := onF_go (picks := picks) (n := n) v ho
    obtain ⟨x, hx, hnx, hat, hlen⟩ := nxt_at v ho picks n
    have hp0 := pick_nn picks n
    obtain ⟨hst', a1, a2, a3, a4⟩ := Step.of_mem hx
    obtain ⟨kind, tn, sh⟩ := x
    simp only at a1 a2 a3 a4 hst'
    obtain ⟨i, rfl⟩ : ∃ i : Nat, tn = i := ⟨tn.toNat, by omega⟩
    obtain ⟨k, rfl⟩ : ∃ k : Nat, sh = k := ⟨sh.toNat, by omega⟩
    have hnx2 : nxt p picks s n = turnS p s kind i k := hnx
    have hst2 : Step p s kind i k := hst'
    have hmod : 0 ≤ pickN picks n % ((canL p s).length : Int) := Int.emod_nonneg _ (by omega)
    ((repeat apply WP.seq); apply WP.block)
    ((repeat apply WP.seq); apply WP.lreg; (first | refine ALK.n (opn_load rfl (eB rfl) rfl) rfl ?_ | refine ALK.r OpR.ld rfl ?_); (first | refine ALK.n (opn_load rfl (eB rfl) rfl) rfl ?_ | refine ALK.r OpR.ld rfl ?_); refine ALK.n (opn_call (CanOf_fn p s v) (Evs.cons Ev.a (Evs.cons Ev.a Evs.nil))) rfl ?_; refine nA rfl rfl ?_; refine ALK.nil ?_; try show WP _ _ _ _ _ _)
    ((repeat apply WP.seq); apply WP.lreg; refine nM rfl rfl ?_; refine nM rfl rfl ?_; refine ALK.n OpN.ix rfl ?_; (first | refine ALK.n (opn_load rfl (eB rfl) rfl) rfl ?_ | refine ALK.r OpR.ld rfl ?_); refine nA rfl rfl ?_; refine ALK.nil ?_; try show WP _ _ _ _ _ _)
    ((repeat apply WP.seq); apply WP.lreg; refine nM rfl rfl ?_; refine ALK.n OpN.cm rfl ?_; refine ALK.nil ?_; try show WP _ _ _ _ _ _)
    ((repeat apply WP.seq); refine WP.qshift (⟨[(14, .im (IV.int (pickN picks n))), (13, .im (stpsV (canL p s))), (12, .im (IV.int n)), (11, .im (IV.int n)), (2, .im (intsV picks)), (3, .im (IV.ptr (cP p))), (6, .off 0 0), (10, .off 1 0)], [(0, .blk 64 [.im (IV.val (.slice none 0 0)), .im (IV.val (.slice none 0 0)), .im (IV.val (.slice none 0 0)), .im (IV.val (.slice none 0 0))]), (1, .blk 64 [.im (intsV s.store), .im (bbV s.rd), .im (bbV s.wr), .im (iiV s.vals)])], 2⟩) (WP.cond rfl (fun h => ?_) (fun h => ?_)) ?_)
    · have hneg : pk < 0 := by simpa using h
      rw [if_pos hneg] at hpN
      ((repeat apply WP.seq); apply WP.lreg; refine nM rfl rfl ?_; refine ALK.n OpN.ar rfl ?_; refine ALK.n (opn_neg (eB rfl) (by omega) (by omega)) rfl ?_; refine nA rfl rfl ?_; refine ALK.nil ?_; try show WP _ _ _ _ _ _)
      show Shift _ _ _ _
      exact Shift.sub [(0, 0), (1, 1)] rfl (SubE.cons rfl (SLe.im (ILe.int hpN.symm)) SubE.a) SubH.a
    · have hneg : ¬ pk < 0 := by simpa using h
      rw [if_neg hneg] at hpN
      refine WP.skip ?_; show Shift _ _ _ _
      exact Shift.sub [(0, 0), (1, 1)] rfl (SubE.cons rfl (SLe.im (ILe.int hpN.symm)) SubE.a) SubH.a
    ((repeat apply WP.seq); apply WP.ldraw; (first | refine ALK.n (opn_load rfl (eB rfl) rfl) rfl ?_ | refine ALK.r OpR.ld rfl ?_); (first | refine ALK.n (opn_load rfl (eB rfl) rfl) rfl ?_ | refine ALK.r OpR.ld rfl ?_); refine nM rfl rfl ?_; refine nM rfl rfl ?_; refine nM rfl rfl ?_; refine ALK.n OpN.ln rfl ?_; refine ALK.n (opn_rem (eB rfl) (eB rfl) (by omega) (by omega)) rfl ?_; refine ALK.n OpN.ix rfl ?_; (first | refine ALK.n (opn_load rfl (eB rfl) rfl) rfl ?_ | refine ALK.r OpR.ld rfl ?_); refine ALK.n (opn_call (R_done_fn p s kind i k v hB hst2) (Evs.cons Ev.a (Evs.cons Ev.a (Evs.cons Ev.a Evs.nil)))) rfl ?_; (first | refine ALK.e (ope_store rfl (eB rfl) (eB rfl) Cs.a rfl rfl rfl) rfl rfl ?_ | refine ALK.e (ope_storeRow rfl rfl (eB rfl) (eB rfl) (oc_val rfl) rfl rfl (by assumption)) rfl rfl ?_); refine ALK.nilD (by kernel_rfl) ?_; try show WP _ _ _ _ _ _)
    ((repeat apply WP.seq); apply WP.lreg; refine nM rfl rfl ?_; refine ALK.n OpN.ar rfl ?_; refine nA rfl rfl ?_; refine ALK.nil ?_; try show WP _ _ _ _ _ _)
    ((repeat apply WP.seq); apply WP.lreg; refine nM rfl rfl ?_; refine ALK.n OpN.ar rfl ?_; refine nA rfl rfl ?_; refine ALK.nil ?_; try show WP _ _ _ _ _ _)
    show ∃ _, _ ∧ _ ∧ _
    rw [hgo, hnx2] at he
    rw [hnx2] at v2 ht
    exact ⟨(turnS p s kind i k, n + 1), ⟨v2, he, by simp only; omega⟩, by simp only; omega, Shift.sub [(0, 0), (1, 1)] rfl SubE.a (SubH.cons rfl rfl (ObLe.blk SLes.a) (SubH.cons rfl rfl (ObLe.blk SLes.a) SubH.nil))⟩
  · ((repeat apply WP.seq); refine WP.exit ?_; show WP _ _ _ _ _ _)
    have htl : onF p picks s n = ((onF p [] s 0).1, n + (onF p [] s 0).2) := by
      by_cases hnl : n < picks.length
      · have ho : overB p s = true := by simp at h; exact h hnl
        rw [onF_over ho, onF_over ho]; simp
      · unfold onF
        have := (onF_tail (p := p) (picks := picks) (f := togo p s) (s := s) (n := n) (m := 0) (by omega)).1
        rw [this]; simp
    have hle : (onF p [] s 0).2 ≤ 64 := by
      have : ∀ f (s : StT) m, (onS p [] f s m).2 ≤ m + f := fun f => by
        induction f with
        | zero => intro s m; simp [onS]
        | succ f ih =>
          intro s m
          cases ho : overB p s with
          | true => rw [onS_over ho]; simp
          | false => rw [onS_go ho]; have := ih (nxt p [] s m) (m + 1); omega
      have := this (togo p s) s 0
      unfold onF
      omega
    rw [he] at htl
    rw [htl]
    ((repeat apply WP.seq); apply WP.lreg; (first | refine ALK.n (opn_load rfl (eB rfl) rfl) rfl ?_ | refine ALK.r OpR.ld rfl ?_); (first | refine ALK.n (opn_load rfl (eB rfl) rfl) rfl ?_ | refine ALK.r OpR.ld rfl ?_); refine ALK.n (opn_call (Rest_fn p s v hB) (Evs.cons Ev.a (Evs.cons Ev.a Evs.nil))) rfl ?_; refine nM rfl rfl ?_; refine nX rfl rfl rfl ?_; refine nX rfl rfl rfl ?_; refine ALK.a (opa_alloc rfl rfl) rfl ?_; (first | refine ALK.e (ope_store rfl (eB rfl) (eB rfl) Cs.a rfl rfl rfl) rfl rfl ?_ | refine ALK.e (ope_storeRow rfl rfl (eB rfl) (eB rfl) (oc_val rfl) rfl rfl (by assumption)) rfl rfl ?_); refine nA rfl rfl ?_; refine ALK.nil ?_; try show WP _ _ _ _ _ _)
    ((repeat apply WP.seq); apply WP.lreg; (first | refine ALK.n (opn_load rfl (eB rfl) rfl) rfl ?_ | refine ALK.r OpR.ld rfl ?_); refine nM rfl rfl ?_; refine nM rfl rfl ?_; refine ALK.n OpN.ar rfl ?_; (first | refine ALK.e (ope_store rfl (eB rfl) (eB rfl) Cs.a rfl rfl rfl) rfl rfl ?_ | refine ALK.e (ope_storeRow rfl rfl (eB rfl) (eB rfl) (oc_val rfl) rfl rfl (by assumption)) rfl rfl ?_); refine nA rfl rfl ?_; refine nA rfl rfl ?_; refine ALK.nil ?_; try show WP _ _ _ _ _ _)
    refine WP.ret ?_
    exact RetOk.tup Try.results31 rfl (.cons ResV.a (.cons (ResV.tmp rfl (ImOf.im (ILe.int (by push_cast; rfl)))) (.cons ResV.a .nil)))
end Go.Proofs.Ytjgmbgfcffnanab
