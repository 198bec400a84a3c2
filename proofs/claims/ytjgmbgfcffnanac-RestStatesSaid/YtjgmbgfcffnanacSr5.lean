/- The reference's DoOf, Rest, PlayOf and ResultsOf. -/
import Derived.Test.YtjgmbgfcffnanacSr4
namespace Go.Proofs.Ytjgmbgfcffnanac
open Go.RowKit

set_option maxRecDepth 100000 in
set_option maxHeartbeats 2000000 in
theorem DoOf_fn (p : Plan) (s : StT) (x : StepT) (hB : TxsB p.txns) : Fn (Cfg.mk Try.prog (ttAt ttl) ttl_ok.ok mixd) 26 [planV p, stV s, stpV x] (IV.tup [stV (doS p s x), IV.int (doE p s x)]) := by
  obtain ⟨kind, tn, sh⟩ := x
  have hx0 : ∀ e, ¬ e = 0 → doE p s ⟨kind, tn, sh⟩ = e → doS p s ⟨kind, tn, sh⟩ = st0 := fun e h1 h2 => by unfold doS; rw [h2, if_neg h1]
  refine Fn.of_wp _ Try.func26 rfl (by kernel_rfl) Try.ntmps26 rfl ?_
  intro F hD hG
  show WP _ _ _ _ _ ⟨[(0, .im (planV p)), (1, .im (stV s)), (2, .im (IV.agg [IV.int kind, IV.int tn, IV.int sh]))], [], 0⟩
  ((repeat apply WP.seq); apply WP.lreg; refine ALK.n (opn_box (eB rfl) Cs.a rfl) rfl ?_; refine ALK.n (opn_box (eB rfl) Cs.a rfl) rfl ?_; refine ALK.n (opn_box (eB rfl) Cs.a rfl) rfl ?_; refine ALK.a (opa_alloc rfl rfl) rfl ?_; refine nA rfl rfl ?_; refine ALK.nil ?_; try show WP _ _ _ _ _ _)
  ((repeat apply WP.seq); apply WP.lreg; (first | refine ALK.n (opn_load rfl (eB rfl) rfl) rfl ?_ | refine ALK.r OpR.ld rfl ?_); (first | refine ALK.n (opn_load rfl (eB rfl) rfl) rfl ?_ | refine ALK.r OpR.ld rfl ?_); refine ALK.n (opn_call (R_CheckState_fn p s hB) (Evs.cons Ev.a (Evs.cons Ev.a Evs.nil))) rfl ?_; refine nA rfl rfl ?_; refine ALK.nil ?_; try show WP _ _ _ _ _ _)
  ((repeat apply WP.seq); apply WP.lreg; refine nM rfl rfl ?_; refine ALK.n OpN.cm rfl ?_; refine ALK.nil ?_; try show WP _ _ _ _ _ _)
  ((repeat apply WP.seq); refine WP.cond rfl (fun h => ?_) (fun h => ?_))
  · have hne : ¬ checkState p s = 0 := by simpa using h
    have hr : doE p s ⟨kind, tn, sh⟩ = checkState p s := by unfold doE; rw [if_neg hne]
    rw [hx0 _ hne hr, hr]
    ((repeat apply WP.seq); apply WP.lreg; (first | refine ALK.n (opn_build rfl rfl rfl rfl Parts.nil) rfl ?_ | refine ALK.n (opn_buildA rfl rfl rfl rfl rfl Parts.nil) rfl ?_); refine nM rfl rfl ?_; (first | refine ALK.e (ope_store rfl (eB rfl) (eB rfl) Cs.a rfl rfl rfl) rfl rfl ?_ | refine ALK.e (ope_storeRow rfl rfl (eB rfl) (eB rfl) (oc_val rfl) rfl rfl (by assumption)) rfl rfl ?_); refine nA rfl rfl ?_; refine ALK.nil ?_; try show WP _ _ _ _ _ _)
    ((repeat apply WP.seq); refine WP.ret ?_; first | exact RetOk.one Try.results26 ResV.a | exact RetOk.tup Try.results26 rfl ResVs.a)
  (refine WP.skip ?_; show WP _ _ _ _ _ _)
  have h0 : checkState p s = 0 := by simpa using h
  have v := valid_iff.1 h0
  obtain ⟨hm, hm1, hm4, hn8, hall⟩ := plan_m v.plan
  have hnT : nT p = p.txns.length := rfl
  have hd : doE p s ⟨kind, tn, sh⟩ = if kind = 1 ∨ kind = 2 then
      if tn < 0 ∨ (nT p : Int) ≤ tn ∨ sh < 0 ∨ (mS p : Int) ≤ sh then 5
      else if hasX p ⟨kind, tn, sh⟩ = false then 5 else if didX s ⟨kind, tn, sh⟩ = true then 7 else if mayB p s kind tn.toNat sh.toNat = false then 6 else 0
    else 4 := by unfold doE; rw [if_pos h0]
  clear h
  ((repeat apply WP.seq); apply WP.lreg; (first | refine ALK.n (opn_field (o := 0) rfl (eB rfl)) rfl ?_ | refine ALK.n (opn_fieldOff (o := 0) rfl (eB rfl)) rfl ?_); (first | refine ALK.n (opn_load rfl (eB rfl) rfl) rfl ?_ | refine ALK.r OpR.ld rfl ?_); refine ALK.n OpN.cm rfl ?_; refine nM rfl rfl ?_; (first | refine ALK.g (fun hb => opn_field (o := 0) rfl (eB rfl)) rfl rfl rfl ?_ | refine ALK.g (fun hb => opn_fieldOff (o := 0) rfl (eB rfl)) rfl rfl rfl ?_); (first | refine ALK.g (fun hb => opn_load rfl (eC rfl hb) rfl) rfl rfl rfl ?_ | refine ALK.rg (fun hb => opr_load rfl (eC rfl hb) rfl rfl) rfl rfl rfl ?_ | refine ALK.rg (fun hb => opr_loadRow rfl rfl (eC rfl hb) rfl (by assumption) rfl) rfl rfl rfl ?_ | refine ALK.rg (fun hb => opr_loadK0 rfl (eC rfl hb) rfl (by assumption) rfl) rfl rfl rfl ?_ | refine ALK.rg (fun hb => opr_loadK rfl (eC rfl hb) rfl (by assumption) rfl) rfl rfl rfl ?_); (first | refine ALK.g (fun hb => opn_cmp (eC rfl hb) (eB rfl) rfl) rfl rfl rfl ?_ | refine ALK.g (fun hb => opn_cmpB rfl (eC rfl hb) (eB rfl) rfl) rfl rfl rfl ?_); refine ALK.n (opn_pick_and (eB rfl) rfl (fun hb2 => by first | exact hb2 | (rw [hb, hb2]; rfl) | simp_all [gd]) rfl) rfl ?_; refine ALK.nil ?_; try show WP _ _ _ _ _ _)
  ((repeat apply WP.seq); refine WP.cond rfl (fun h => ?_) (fun h => ?_))
  · have hr : doE p s ⟨kind, tn, sh⟩ = 4 := by
      rw [hd, if_neg]
      simp at h; omega
    rw [hx0 _ (by omega) hr, hr]
    ((repeat apply WP.seq); apply WP.lreg; (first | refine ALK.n (opn_build rfl rfl rfl rfl Parts.nil) rfl ?_ | refine ALK.n (opn_buildA rfl rfl rfl rfl rfl Parts.nil) rfl ?_); (first | refine ALK.e (ope_store rfl (eB rfl) (eB rfl) Cs.a rfl rfl rfl) rfl rfl ?_ | refine ALK.e (ope_storeRow rfl rfl (eB rfl) (eB rfl) (oc_val rfl) rfl rfl (by assumption)) rfl rfl ?_); refine nA rfl rfl ?_; refine ALK.nil ?_; try show WP _ _ _ _ _ _)
    ((repeat apply WP.seq); refine WP.ret ?_; first | exact RetOk.one Try.results26 ResV.a | exact RetOk.tup Try.results26 rfl ResVs.a)
  (refine WP.skip ?_; show WP _ _ _ _ _ _)
  have hkd : kind = 1 ∨ kind = 2 := by simp at h; omega
  rw [if_pos hkd] at hd
  clear h
  ((repeat apply WP.seq); apply WP.lreg; (first | refine ALK.n (opn_field (o := 1) rfl (eB rfl)) rfl ?_ | refine ALK.n (opn_fieldOff (o := 1) rfl (eB rfl)) rfl ?_); (first | refine ALK.n (opn_load rfl (eB rfl) rfl) rfl ?_ | refine ALK.r OpR.ld rfl ?_); (first | refine ALK.n (opn_field (o := 1) rfl (eB rfl)) rfl ?_ | refine ALK.n (opn_fieldOff (o := 1) rfl (eB rfl)) rfl ?_); (first | refine ALK.n (opn_load rfl (eB rfl) rfl) rfl ?_ | refine ALK.r OpR.ld rfl ?_); refine ALK.n OpN.ln rfl ?_; refine ALK.n OpN.ar rfl ?_; refine ALK.n (opn_call (within_fn _ _ _) (Evs.cons Ev.a (Evs.cons Ev.a (Evs.cons Ev.a Evs.nil)))) rfl ?_; refine ALK.n (opn_not (eB rfl)) rfl ?_; refine nM rfl rfl ?_; (first | refine ALK.g (fun hb => opn_field (o := 2) rfl (eB rfl)) rfl rfl rfl ?_ | refine ALK.g (fun hb => opn_fieldOff (o := 2) rfl (eB rfl)) rfl rfl rfl ?_); (first | refine ALK.g (fun hb => opn_load rfl (eC rfl hb) rfl) rfl rfl rfl ?_ | refine ALK.rg (fun hb => opr_load rfl (eC rfl hb) rfl rfl) rfl rfl rfl ?_ | refine ALK.rg (fun hb => opr_loadRow rfl rfl (eC rfl hb) rfl (by assumption) rfl) rfl rfl rfl ?_ | refine ALK.rg (fun hb => opr_loadK0 rfl (eC rfl hb) rfl (by assumption) rfl) rfl rfl rfl ?_ | refine ALK.rg (fun hb => opr_loadK rfl (eC rfl hb) rfl (by assumption) rfl) rfl rfl rfl ?_); (first | refine ALK.g (fun hb => opn_field (o := 0) rfl (eB rfl)) rfl rfl rfl ?_ | refine ALK.g (fun hb => opn_fieldOff (o := 0) rfl (eB rfl)) rfl rfl rfl ?_); (first | refine ALK.g (fun hb => opn_load rfl (eC rfl hb) rfl) rfl rfl rfl ?_ | refine ALK.rg (fun hb => opr_load rfl (eC rfl hb) rfl rfl) rfl rfl rfl ?_ | refine ALK.rg (fun hb => opr_loadRow rfl rfl (eC rfl hb) rfl (by assumption) rfl) rfl rfl rfl ?_ | refine ALK.rg (fun hb => opr_loadK0 rfl (eC rfl hb) rfl (by assumption) rfl) rfl rfl rfl ?_ | refine ALK.rg (fun hb => opr_loadK rfl (eC rfl hb) rfl (by assumption) rfl) rfl rfl rfl ?_); (first | refine ALK.g (fun hb => opn_arith (eC rfl hb) (eB rfl) (arith_in rfl (by omega) (by omega))) rfl rfl rfl ?_ | refine ALK.g (fun hb => opn_arith (eC rfl hb) (eB rfl) rfl) rfl rfl rfl ?_); refine ALK.g (fun hb => opn_call (within_fn _ _ _) (Evs.cons Ev.a (Evs.cons Ev.a (Evs.cons Ev.a Evs.nil)))) rfl rfl rfl ?_; refine ALK.g (fun hb => opn_not (eC rfl hb)) rfl rfl rfl ?_; refine ALK.n (opn_pick_or (eB rfl) rfl rfl (fun hb2 => by first | (rw [hb2]; rfl) | (rw [hb, hb2]; rfl) | simp_all [gd])) rfl ?_; refine ALK.nil ?_; try show WP _ _ _ _ _ _)
  ((repeat apply WP.seq); refine WP.cond rfl (fun h => ?_) (fun h => ?_))
  · have hr : doE p s ⟨kind, tn, sh⟩ = 5 := by
      rw [hd, if_pos]
      simp at h; omega
    rw [hx0 _ (by omega) hr, hr]
    ((repeat apply WP.seq); apply WP.lreg; (first | refine ALK.n (opn_build rfl rfl rfl rfl Parts.nil) rfl ?_ | refine ALK.n (opn_buildA rfl rfl rfl rfl rfl Parts.nil) rfl ?_); (first | refine ALK.e (ope_store rfl (eB rfl) (eB rfl) Cs.a rfl rfl rfl) rfl rfl ?_ | refine ALK.e (ope_storeRow rfl rfl (eB rfl) (eB rfl) (oc_val rfl) rfl rfl (by assumption)) rfl rfl ?_); refine nA rfl rfl ?_; refine ALK.nil ?_; try show WP _ _ _ _ _ _)
    ((repeat apply WP.seq); refine WP.ret ?_; first | exact RetOk.one Try.results26 ResV.a | exact RetOk.tup Try.results26 rfl ResVs.a)
  (refine WP.skip ?_; show WP _ _ _ _ _ _)
  have hrange : ¬ (tn < 0 ∨ (nT p : Int) ≤ tn ∨ sh < 0 ∨ (mS p : Int) ≤ sh) := by simp at h; omega
  rw [if_neg hrange] at hd
  clear h
  obtain ⟨n, rfl⟩ : ∃ n : Nat, tn = n := ⟨tn.toNat, by omega⟩
  obtain ⟨k, rfl⟩ : ∃ k : Nat, sh = k := ⟨sh.toNat, by omega⟩
  have hn : n < nT p := by omega
  have hk : k < mS p := by omega
  obtain ⟨ht, hok⟩ := hall n hn
  have e1 := prt_at (p := p) (n := n) hk
  have e2 := act_at (p := p) (n := n) hk
  have e3 := v.shp.rd hn
  have e4 := v.shp.wr hn
  have e5 := v.shp.rdk hn hk
  have e6 := v.shp.wrk hn hk
  ((repeat apply WP.seq); apply WP.ldraw; (first | refine ALK.n (opn_field (o := 1) rfl (eB rfl)) rfl ?_ | refine ALK.n (opn_fieldOff (o := 1) rfl (eB rfl)) rfl ?_); (first | refine ALK.n (opn_load rfl (eB rfl) rfl) rfl ?_ | refine ALK.r OpR.ld rfl ?_); (first | refine ALK.n (opn_field (o := 1) rfl (eB rfl)) rfl ?_ | refine ALK.n (opn_fieldOff (o := 1) rfl (eB rfl)) rfl ?_); (first | refine ALK.n (opn_load rfl (eB rfl) rfl) rfl ?_ | refine ALK.r OpR.ld rfl ?_); refine ALK.n OpN.ix rfl ?_; (first | refine ALK.n (opn_load rfl (eB rfl) rfl) rfl ?_ | refine ALK.r OpR.ld rfl ?_); (first | refine ALK.n (opn_field (o := 2) rfl (eB rfl)) rfl ?_ | refine ALK.n (opn_fieldOff (o := 2) rfl (eB rfl)) rfl ?_); (first | refine ALK.n (opn_load rfl (eB rfl) rfl) rfl ?_ | refine ALK.r OpR.ld rfl ?_); refine ALK.n OpN.ix rfl ?_; (first | refine ALK.n (opn_load rfl (eB rfl) rfl) rfl ?_ | refine ALK.r OpR.ld rfl ?_); refine nA rfl rfl ?_; refine ALK.nilD (by kernel_rfl) ?_; try show WP _ _ _ _ _ _)
  ((repeat apply WP.seq); apply WP.ldraw; (first | refine ALK.n (opn_load rfl (eB rfl) rfl) rfl ?_ | refine ALK.r OpR.ld rfl ?_); (first | refine ALK.n (opn_field (o := 1) rfl (eB rfl)) rfl ?_ | refine ALK.n (opn_fieldOff (o := 1) rfl (eB rfl)) rfl ?_); (first | refine ALK.n (opn_load rfl (eB rfl) rfl) rfl ?_ | refine ALK.r OpR.ld rfl ?_); refine ALK.n (opn_call (ref_PartOf_fn p (mS p) n (txN p n) hm hm1 hm4 (by omega) ht hok) (Evs.cons Ev.a (Evs.cons Ev.a Evs.nil))) rfl ?_; (first | refine ALK.n (opn_field (o := 2) rfl (eB rfl)) rfl ?_ | refine ALK.n (opn_fieldOff (o := 2) rfl (eB rfl)) rfl ?_); (first | refine ALK.n (opn_load rfl (eB rfl) rfl) rfl ?_ | refine ALK.r OpR.ld rfl ?_); refine ALK.n OpN.ix rfl ?_; (first | refine ALK.n (opn_load rfl (eB rfl) rfl) rfl ?_ | refine ALK.r OpR.ld rfl ?_); refine nA rfl rfl ?_; refine ALK.nilD (by kernel_rfl) ?_; try show WP _ _ _ _ _ _)
  ((repeat apply WP.seq); apply WP.lreg; (first | refine ALK.n (opn_field (o := 0) rfl (eB rfl)) rfl ?_ | refine ALK.n (opn_fieldOff (o := 0) rfl (eB rfl)) rfl ?_); (first | refine ALK.n (opn_load rfl (eB rfl) rfl) rfl ?_ | refine ALK.r OpR.ld rfl ?_); refine ALK.n OpN.cm rfl ?_; refine ALK.nil ?_; try show WP _ _ _ _ _ _)
  ((repeat apply WP.seq); refine WP.qshift (⟨[(10, .im (IV.bool (hasX p ⟨kind, n, k⟩))), (9, .im (IV.bool (didX s ⟨kind, n, k⟩))), (3, .im (IV.ptr (cP p))), (4, .im (IV.ptr (cSt s))), (5, .im (IV.ptr [IV.int kind, IV.int (n : Int), IV.int (k : Int)])), (6, .off 0 0)], [(0, .blk 29 [.im (IV.val (.slice none 0 0)), .im (IV.val (.slice none 0 0)), .im (IV.val (.slice none 0 0)), .im (IV.val (.slice none 0 0))])], 1⟩) (WP.cond rfl (fun h => ?_) (fun h => ?_)) ?_)
  · have hk2 : kind = 2 := by simpa using h
    have a1 : hasX p ⟨kind, n, k⟩ = act p n k := by unfold hasX; rw [if_pos hk2]; rfl
    have a2 : didX s ⟨kind, n, k⟩ = bAt s.wr n k := by unfold didX; rw [if_pos hk2]; rfl
    ((repeat apply WP.seq); apply WP.ldraw; (first | refine ALK.n (opn_field (o := 2) rfl (eB rfl)) rfl ?_ | refine ALK.n (opn_fieldOff (o := 2) rfl (eB rfl)) rfl ?_); (first | refine ALK.n (opn_load rfl (eB rfl) rfl) rfl ?_ | refine ALK.r OpR.ld rfl ?_); (first | refine ALK.n (opn_field (o := 1) rfl (eB rfl)) rfl ?_ | refine ALK.n (opn_fieldOff (o := 1) rfl (eB rfl)) rfl ?_); (first | refine ALK.n (opn_load rfl (eB rfl) rfl) rfl ?_ | refine ALK.r OpR.ld rfl ?_); refine ALK.n OpN.ix rfl ?_; (first | refine ALK.n (opn_load rfl (eB rfl) rfl) rfl ?_ | refine ALK.r OpR.ld rfl ?_); (first | refine ALK.n (opn_field (o := 2) rfl (eB rfl)) rfl ?_ | refine ALK.n (opn_fieldOff (o := 2) rfl (eB rfl)) rfl ?_); (first | refine ALK.n (opn_load rfl (eB rfl) rfl) rfl ?_ | refine ALK.r OpR.ld rfl ?_); refine ALK.n OpN.ix rfl ?_; (first | refine ALK.n (opn_load rfl (eB rfl) rfl) rfl ?_ | refine ALK.r OpR.ld rfl ?_); refine nA rfl rfl ?_; refine ALK.nilD (by kernel_rfl) ?_; try show WP _ _ _ _ _ _)
    ((repeat apply WP.seq); apply WP.ldraw; (first | refine ALK.n (opn_load rfl (eB rfl) rfl) rfl ?_ | refine ALK.r OpR.ld rfl ?_); (first | refine ALK.n (opn_field (o := 1) rfl (eB rfl)) rfl ?_ | refine ALK.n (opn_fieldOff (o := 1) rfl (eB rfl)) rfl ?_); (first | refine ALK.n (opn_load rfl (eB rfl) rfl) rfl ?_ | refine ALK.r OpR.ld rfl ?_); refine ALK.n (opn_call (ref_ActiveOf_fn p (mS p) n (txN p n) hm hm1 hm4 (by omega) ht hok) (Evs.cons Ev.a (Evs.cons Ev.a Evs.nil))) rfl ?_; (first | refine ALK.n (opn_field (o := 2) rfl (eB rfl)) rfl ?_ | refine ALK.n (opn_fieldOff (o := 2) rfl (eB rfl)) rfl ?_); (first | refine ALK.n (opn_load rfl (eB rfl) rfl) rfl ?_ | refine ALK.r OpR.ld rfl ?_); refine ALK.n OpN.ix rfl ?_; (first | refine ALK.n (opn_load rfl (eB rfl) rfl) rfl ?_ | refine ALK.r OpR.ld rfl ?_); refine nA rfl rfl ?_; refine ALK.nilD (by kernel_rfl) ?_; try show WP _ _ _ _ _ _)
    show Shift _ _ _ _
    exact Shift.sub [(0, 0)] rfl (SubE.cons rfl (SLe.im (ILe.bool a1.symm)) (SubE.cons rfl (SLe.im (ILe.bool a2.symm)) SubE.a)) SubH.a
  · have hk2 : ¬ kind = 2 := by simpa using h
    have a1 : hasX p ⟨kind, n, k⟩ = prt p n k := by unfold hasX; rw [if_neg hk2]; rfl
    have a2 : didX s ⟨kind, n, k⟩ = bAt s.rd n k := by unfold didX; rw [if_neg hk2]; rfl
    refine WP.skip ?_; show Shift _ _ _ _
    exact Shift.sub [(0, 0)] rfl (SubE.cons rfl (SLe.im (ILe.bool a1.symm)) (SubE.cons rfl (SLe.im (ILe.bool a2.symm)) SubE.a)) SubH.a
  ((repeat apply WP.seq); apply WP.block)
  ((repeat apply WP.seq); apply WP.lreg; refine nM rfl rfl ?_; refine ALK.n (opn_not (eB rfl)) rfl ?_; refine nA rfl rfl ?_; refine ALK.nil ?_; try show WP _ _ _ _ _ _)
  ((repeat apply WP.seq); refine WP.cond rfl (fun h => ?_) (fun h => ?_))
  · have hr : doE p s ⟨kind, n, k⟩ = 5 := by rw [hd, if_pos (by simpa using h)]
    rw [hx0 _ (by omega) hr, hr]
    ((repeat apply WP.seq); apply WP.lreg; (first | refine ALK.n (opn_build rfl rfl rfl rfl Parts.nil) rfl ?_ | refine ALK.n (opn_buildA rfl rfl rfl rfl rfl Parts.nil) rfl ?_); (first | refine ALK.e (ope_store rfl (eB rfl) (eB rfl) Cs.a rfl rfl rfl) rfl rfl ?_ | refine ALK.e (ope_storeRow rfl rfl (eB rfl) (eB rfl) (oc_val rfl) rfl rfl (by assumption)) rfl rfl ?_); refine nA rfl rfl ?_; refine ALK.nil ?_; try show WP _ _ _ _ _ _)
    ((repeat apply WP.seq); refine WP.ret ?_; first | exact RetOk.one Try.results26 ResV.a | exact RetOk.tup Try.results26 rfl ResVs.a)
  rw [if_neg (by simpa using h)] at hd
  clear h
  ((repeat apply WP.seq); apply WP.lreg; refine nM rfl rfl ?_; refine nA rfl rfl ?_; refine ALK.nil ?_; try show WP _ _ _ _ _ _)
  ((repeat apply WP.seq); refine WP.cond rfl (fun h => ?_) (fun h => ?_))
  · have hr : doE p s ⟨kind, n, k⟩ = 7 := by rw [hd, if_pos (by simpa using h)]
    rw [hx0 _ (by omega) hr, hr]
    ((repeat apply WP.seq); apply WP.lreg; (first | refine ALK.n (opn_build rfl rfl rfl rfl Parts.nil) rfl ?_ | refine ALK.n (opn_buildA rfl rfl rfl rfl rfl Parts.nil) rfl ?_); (first | refine ALK.e (ope_store rfl (eB rfl) (eB rfl) Cs.a rfl rfl rfl) rfl rfl ?_ | refine ALK.e (ope_storeRow rfl rfl (eB rfl) (eB rfl) (oc_val rfl) rfl rfl (by assumption)) rfl rfl ?_); refine nA rfl rfl ?_; refine ALK.nil ?_; try show WP _ _ _ _ _ _)
    ((repeat apply WP.seq); refine WP.ret ?_; first | exact RetOk.one Try.results26 ResV.a | exact RetOk.tup Try.results26 rfl ResVs.a)
  rw [if_neg (by simpa using h)] at hd
  clear h
  ((repeat apply WP.seq); apply WP.lreg; (first | refine ALK.n (opn_load rfl (eB rfl) rfl) rfl ?_ | refine ALK.r OpR.ld rfl ?_); (first | refine ALK.n (opn_load rfl (eB rfl) rfl) rfl ?_ | refine ALK.r OpR.ld rfl ?_); (first | refine ALK.n (opn_load rfl (eB rfl) rfl) rfl ?_ | refine ALK.r OpR.ld rfl ?_); refine ALK.n (opn_call (R_may_fn p s kind n k v hkd hn hk) (Evs.cons Ev.a (Evs.cons Ev.a (Evs.cons Ev.a Evs.nil)))) rfl ?_; refine ALK.n (opn_not (eB rfl)) rfl ?_; refine nA rfl rfl ?_; refine ALK.nil ?_; try show WP _ _ _ _ _ _)
  ((repeat apply WP.seq); refine WP.cond rfl (fun h => ?_) (fun h => ?_))
  · have hr : doE p s ⟨kind, n, k⟩ = 6 := by rw [hd]; exact if_pos (by simpa using h)
    rw [hx0 _ (by omega) hr, hr]
    ((repeat apply WP.seq); apply WP.lreg; (first | refine ALK.n (opn_build rfl rfl rfl rfl Parts.nil) rfl ?_ | refine ALK.n (opn_buildA rfl rfl rfl rfl rfl Parts.nil) rfl ?_); (first | refine ALK.e (ope_store rfl (eB rfl) (eB rfl) Cs.a rfl rfl rfl) rfl rfl ?_ | refine ALK.e (ope_storeRow rfl rfl (eB rfl) (eB rfl) (oc_val rfl) rfl rfl (by assumption)) rfl rfl ?_); refine nA rfl rfl ?_; refine ALK.nil ?_; try show WP _ _ _ _ _ _)
    ((repeat apply WP.seq); refine WP.ret ?_; first | exact RetOk.one Try.results26 ResV.a | exact RetOk.tup Try.results26 rfl ResVs.a)
  have hmay : mayB p s kind n k = true := by simpa using h
  have hstep : Step p s kind n k := ⟨hkd, hn, hk, hmay⟩
  have hr : doE p s ⟨kind, n, k⟩ = 0 := by rw [hd]; exact if_neg (by rw [Int.toNat_natCast, Int.toNat_natCast, hmay]; simp)
  have hr2 : doS p s ⟨kind, n, k⟩ = turnS p s kind n k := by unfold doS; rw [if_pos hr]; rfl
  clear h
  rw [hr2, hr]
  (refine WP.skip ?_; show WP _ _ _ _ _ _)
  ((repeat apply WP.seq); apply WP.lreg; (first | refine ALK.n (opn_load rfl (eB rfl) rfl) rfl ?_ | refine ALK.r OpR.ld rfl ?_); (first | refine ALK.n (opn_load rfl (eB rfl) rfl) rfl ?_ | refine ALK.r OpR.ld rfl ?_); (first | refine ALK.n (opn_load rfl (eB rfl) rfl) rfl ?_ | refine ALK.r OpR.ld rfl ?_); refine ALK.n (opn_call (R_done_fn p s kind n k v hB hstep) (Evs.cons Ev.a (Evs.cons Ev.a (Evs.cons Ev.a Evs.nil)))) rfl ?_; (first | refine ALK.e (ope_store rfl (eB rfl) (eB rfl) Cs.a rfl rfl rfl) rfl rfl ?_ | refine ALK.e (ope_storeRow rfl rfl (eB rfl) (eB rfl) (oc_val rfl) rfl rfl (by assumption)) rfl rfl ?_); refine nA rfl rfl ?_; refine ALK.nil ?_; try show WP _ _ _ _ _ _)
  ((repeat apply WP.seq); refine WP.ret ?_; first | exact RetOk.one Try.results26 ResV.a | exact RetOk.tup Try.results26 rfl ResVs.a)

/- played to the end -/
end Go.Proofs.Ytjgmbgfcffnanac
