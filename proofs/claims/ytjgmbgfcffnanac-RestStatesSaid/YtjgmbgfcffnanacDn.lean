/- Package steps: Do, what comes being owned. -/
import Derived.Test.YtjgmbgfcffnanacSs7
namespace Go.Proofs.Ytjgmbgfcffnanac
open Go.RowKit

set_option maxRecDepth 100000 in
set_option maxHeartbeats 2000000 in
theorem Do_new (p : Plan) (s : StT) (x : StepT) (hB : TxsB p.txns) (h00 : doE p s x = 0) : FnE (Cfg.mk Try.prog (ttAt ttl) ttl_ok.ok mixd) 21 0 [.im (planV p), .im (stV s), .im (stpV x)] [] (.tup [ownSV (doS p s x) 0 1 17 33, .im (IV.int 0)]) (ownH (doS p s x) 0 1 17 33) 49 [] := by
  obtain ⟨kind, tn, sh⟩ := x
  refine FnE.of_wp _ [] Try.func21 rfl (by kernel_rfl) Try.ntmps21 rfl rfl rfl rfl rfl rfl rfl rfl rfl ?_
  intro F vs hD hvs
  obtain ⟨v0, v1, v2, rfl⟩ := len3 hvs
  show WP _ _ _ _ _ ⟨[(0, .im (planV p)), (1, .im (stV s)), (2, .im (IV.agg [IV.int kind, IV.int tn, IV.int sh]))], [], 0⟩
  ((repeat apply WP.seq); apply WP.lreg; refine ALK.n (opn_box (eB rfl) Cs.a rfl) rfl ?_; refine ALK.n (opn_box (eB rfl) Cs.a rfl) rfl ?_; refine ALK.n (opn_box (eB rfl) Cs.a rfl) rfl ?_; refine ALK.a (opa_alloc rfl rfl) rfl ?_; refine nA rfl rfl ?_; refine ALK.nil ?_; try show WP _ _ _ _ _ _)
  ((repeat apply WP.seq); apply WP.lreg; (first | refine ALK.n (opn_load rfl (eB rfl) rfl) rfl ?_ | refine ALK.r OpR.ld rfl ?_); (first | refine ALK.n (opn_load rfl (eB rfl) rfl) rfl ?_ | refine ALK.r OpR.ld rfl ?_); refine ALK.n (opn_call (steps_Check_fn p s hB) (Evs.cons Ev.a (Evs.cons Ev.a Evs.nil))) rfl ?_; refine nA rfl rfl ?_; refine ALK.nil ?_; try show WP _ _ _ _ _ _)
  ((repeat apply WP.seq); apply WP.lreg; refine nM rfl rfl ?_; refine ALK.n OpN.cm rfl ?_; refine ALK.nil ?_; try show WP _ _ _ _ _ _)
  ((repeat apply WP.seq); refine WP.cond rfl (fun h => ?_) (fun h => ?_))
  · have hne : ¬ checkState p s = 0 := by simpa using h
    have hr : doE p s ⟨kind, tn, sh⟩ = checkState p s := by unfold doE; rw [if_neg hne]
    exact absurd (h00.symm.trans hr) (by omega)
  (refine WP.skip ?_; show WP _ _ _ _ _ _)
  have h0 : checkState p s = 0 := by simpa using h
  have v := valid_iff.1 h0
  obtain ⟨hm, hm1, hm4, hn8, hall⟩ := plan_m v.plan
  have hnT : nT p = p.txns.length := rfl
  have hd : doE p s ⟨kind, tn, sh⟩ = if kind = 1 ∨ kind = 2 then
      if tn < 0 ∨ (nT p : Int) ≤ tn ∨ sh < 0 ∨ (mS p : Int) ≤ sh then 5
      else if hasX p ⟨kind, tn, sh⟩ = false then 5 else if didX s ⟨kind, tn, sh⟩ = true then 7 else if mayB p s kind tn.toNat sh.toNat = false then 6 else 0
    else 4 := by unfold doE; rw [if_pos h0]
  clear h
  ((repeat apply WP.seq); apply WP.lreg; (first | refine ALK.n (opn_field (o := 0) rfl (eB rfl)) rfl ?_ | refine ALK.n (opn_fieldOff (o := 0) rfl (eB rfl)) rfl ?_); (first | refine ALK.n (opn_load rfl (eB rfl) rfl) rfl ?_ | refine ALK.r OpR.ld rfl ?_); refine ALK.n OpN.cm rfl ?_; refine nM rfl rfl ?_; (first | refine ALK.g (fun hb => opn_field (o := 0) rfl (eB rfl)) rfl rfl rfl ?_ | refine ALK.g (fun hb => opn_fieldOff (o := 0) rfl (eB rfl)) rfl rfl rfl ?_); (first | refine ALK.g (fun hb => opn_load rfl (eC rfl hb) rfl) rfl rfl rfl ?_ | refine ALK.rg (fun hb => opr_load rfl (eC rfl hb) rfl rfl) rfl rfl rfl ?_ | refine ALK.rg (fun hb => opr_loadRow rfl rfl (eC rfl hb) rfl (by assumption) rfl) rfl rfl rfl ?_ | refine ALK.rg (fun hb => opr_loadK0 rfl (eC rfl hb) rfl (by assumption) rfl) rfl rfl rfl ?_ | refine ALK.rg (fun hb => opr_loadK rfl (eC rfl hb) rfl (by assumption) rfl) rfl rfl rfl ?_); (first | refine ALK.g (fun hb => opn_cmp (eC rfl hb) (eB rfl) rfl) rfl rfl rfl ?_ | refine ALK.g (fun hb => opn_cmpB rfl (eC rfl hb) (eB rfl) rfl) rfl rfl rfl ?_); refine ALK.n (opn_pick_and (eB rfl) rfl (fun hb2 => by first | exact hb2 | (rw [hb, hb2]; rfl) | simp_all [gd]) rfl) rfl ?_; refine ALK.nil ?_; try show WP _ _ _ _ _ _)
  ((repeat apply WP.seq); refine WP.cond rfl (fun h => ?_) (fun h => ?_))
  · have hr : doE p s ⟨kind, tn, sh⟩ = 4 := by
      rw [hd, if_neg]
      simp at h; omega
    exact absurd (h00.symm.trans hr) (by omega)
  (refine WP.skip ?_; show WP _ _ _ _ _ _)
  have hkd : kind = 1 ∨ kind = 2 := by simp at h; omega
  rw [if_pos hkd] at hd
  clear h
  ((repeat apply WP.seq); apply WP.lreg; (first | refine ALK.n (opn_field (o := 1) rfl (eB rfl)) rfl ?_ | refine ALK.n (opn_fieldOff (o := 1) rfl (eB rfl)) rfl ?_); (first | refine ALK.n (opn_load rfl (eB rfl) rfl) rfl ?_ | refine ALK.r OpR.ld rfl ?_); refine ALK.n OpN.cm rfl ?_; refine nM rfl rfl ?_; (first | refine ALK.g (fun hb => opn_field (o := 1) rfl (eB rfl)) rfl rfl rfl ?_ | refine ALK.g (fun hb => opn_fieldOff (o := 1) rfl (eB rfl)) rfl rfl rfl ?_); (first | refine ALK.g (fun hb => opn_load rfl (eC rfl hb) rfl) rfl rfl rfl ?_ | refine ALK.rg (fun hb => opr_load rfl (eC rfl hb) rfl rfl) rfl rfl rfl ?_ | refine ALK.rg (fun hb => opr_loadRow rfl rfl (eC rfl hb) rfl (by assumption) rfl) rfl rfl rfl ?_ | refine ALK.rg (fun hb => opr_loadK0 rfl (eC rfl hb) rfl (by assumption) rfl) rfl rfl rfl ?_ | refine ALK.rg (fun hb => opr_loadK rfl (eC rfl hb) rfl (by assumption) rfl) rfl rfl rfl ?_); (first | refine ALK.g (fun hb => opn_field (o := 1) rfl (eB rfl)) rfl rfl rfl ?_ | refine ALK.g (fun hb => opn_fieldOff (o := 1) rfl (eB rfl)) rfl rfl rfl ?_); (first | refine ALK.g (fun hb => opn_load rfl (eC rfl hb) rfl) rfl rfl rfl ?_ | refine ALK.rg (fun hb => opr_load rfl (eC rfl hb) rfl rfl) rfl rfl rfl ?_ | refine ALK.rg (fun hb => opr_loadRow rfl rfl (eC rfl hb) rfl (by assumption) rfl) rfl rfl rfl ?_ | refine ALK.rg (fun hb => opr_loadK0 rfl (eC rfl hb) rfl (by assumption) rfl) rfl rfl rfl ?_ | refine ALK.rg (fun hb => opr_loadK rfl (eC rfl hb) rfl (by assumption) rfl) rfl rfl rfl ?_); (first | refine ALK.g (fun hb => opn_len rfl (eC rfl hb)) rfl rfl rfl ?_ | refine ALK.g (fun hb => opn_lenRow rfl (eC rfl hb)) rfl rfl rfl ?_ | refine ALK.g (fun hb => opn_lenNil rfl (eC rfl hb)) rfl rfl rfl ?_); (first | refine ALK.g (fun hb => opn_cmp (eC rfl hb) (eC rfl hb) rfl) rfl rfl rfl ?_ | refine ALK.g (fun hb => opn_cmpB rfl (eC rfl hb) (eC rfl hb) rfl) rfl rfl rfl ?_); refine ALK.n (opn_pick_or (eB rfl) rfl rfl (fun hb2 => by first | (rw [hb2]; rfl) | (rw [hb, hb2]; rfl) | simp_all [gd])) rfl ?_; refine nM rfl rfl ?_; (first | refine ALK.g (fun hb => opn_field (o := 2) rfl (eB rfl)) rfl rfl rfl ?_ | refine ALK.g (fun hb => opn_fieldOff (o := 2) rfl (eB rfl)) rfl rfl rfl ?_); (first | refine ALK.g (fun hb => opn_load rfl (eC rfl hb) rfl) rfl rfl rfl ?_ | refine ALK.rg (fun hb => opr_load rfl (eC rfl hb) rfl rfl) rfl rfl rfl ?_ | refine ALK.rg (fun hb => opr_loadRow rfl rfl (eC rfl hb) rfl (by assumption) rfl) rfl rfl rfl ?_ | refine ALK.rg (fun hb => opr_loadK0 rfl (eC rfl hb) rfl (by assumption) rfl) rfl rfl rfl ?_ | refine ALK.rg (fun hb => opr_loadK rfl (eC rfl hb) rfl (by assumption) rfl) rfl rfl rfl ?_); (first | refine ALK.g (fun hb => opn_cmp (eC rfl hb) (eB rfl) rfl) rfl rfl rfl ?_ | refine ALK.g (fun hb => opn_cmpB rfl (eC rfl hb) (eB rfl) rfl) rfl rfl rfl ?_); refine ALK.n (opn_pick_or (eB rfl) rfl rfl (fun hb2 => by first | (rw [hb2]; rfl) | (rw [hb, hb2]; rfl) | simp_all [gd])) rfl ?_; refine nM rfl rfl ?_; (first | refine ALK.g (fun hb => opn_field (o := 2) rfl (eB rfl)) rfl rfl rfl ?_ | refine ALK.g (fun hb => opn_fieldOff (o := 2) rfl (eB rfl)) rfl rfl rfl ?_); (first | refine ALK.g (fun hb => opn_load rfl (eC rfl hb) rfl) rfl rfl rfl ?_ | refine ALK.rg (fun hb => opr_load rfl (eC rfl hb) rfl rfl) rfl rfl rfl ?_ | refine ALK.rg (fun hb => opr_loadRow rfl rfl (eC rfl hb) rfl (by assumption) rfl) rfl rfl rfl ?_ | refine ALK.rg (fun hb => opr_loadK0 rfl (eC rfl hb) rfl (by assumption) rfl) rfl rfl rfl ?_ | refine ALK.rg (fun hb => opr_loadK rfl (eC rfl hb) rfl (by assumption) rfl) rfl rfl rfl ?_); (first | refine ALK.g (fun hb => opn_field (o := 0) rfl (eB rfl)) rfl rfl rfl ?_ | refine ALK.g (fun hb => opn_fieldOff (o := 0) rfl (eB rfl)) rfl rfl rfl ?_); (first | refine ALK.g (fun hb => opn_load rfl (eC rfl hb) rfl) rfl rfl rfl ?_ | refine ALK.rg (fun hb => opr_load rfl (eC rfl hb) rfl rfl) rfl rfl rfl ?_ | refine ALK.rg (fun hb => opr_loadRow rfl rfl (eC rfl hb) rfl (by assumption) rfl) rfl rfl rfl ?_ | refine ALK.rg (fun hb => opr_loadK0 rfl (eC rfl hb) rfl (by assumption) rfl) rfl rfl rfl ?_ | refine ALK.rg (fun hb => opr_loadK rfl (eC rfl hb) rfl (by assumption) rfl) rfl rfl rfl ?_); (first | refine ALK.g (fun hb => opn_cmp (eC rfl hb) (eC rfl hb) rfl) rfl rfl rfl ?_ | refine ALK.g (fun hb => opn_cmpB rfl (eC rfl hb) (eC rfl hb) rfl) rfl rfl rfl ?_); refine ALK.n (opn_pick_or (eB rfl) rfl rfl (fun hb2 => by first | (rw [hb2]; rfl) | (rw [hb, hb2]; rfl) | simp_all [gd])) rfl ?_; refine ALK.nil ?_; try show WP _ _ _ _ _ _)
  ((repeat apply WP.seq); refine WP.cond rfl (fun h => ?_) (fun h => ?_))
  · have hr : doE p s ⟨kind, tn, sh⟩ = 5 := by
      rw [hd, if_pos]
      simp at h; omega
    exact absurd (h00.symm.trans hr) (by omega)
  (refine WP.skip ?_; show WP _ _ _ _ _ _)
  have hrange : ¬ (tn < 0 ∨ (nT p : Int) ≤ tn ∨ sh < 0 ∨ (mS p : Int) ≤ sh) := by simp at h; omega
  rw [if_neg hrange] at hd
  clear h
  obtain ⟨n, rfl⟩ : ∃ n : Nat, tn = n := ⟨tn.toNat, by omega⟩
  obtain ⟨k, rfl⟩ : ∃ k : Nat, sh = k := ⟨sh.toNat, by omega⟩
  have hn : n < nT p := by omega
  have hk : k < mS p := by omega
  have hsx := seatsL_at (p := p) (s := s) hn
  have hsy := seatRow_at (p := p) (s := s) (n := n) hk
  ((repeat apply WP.seq); apply WP.lreg; (first | refine ALK.n (opn_load rfl (eB rfl) rfl) rfl ?_ | refine ALK.r OpR.ld rfl ?_); refine ALK.n (opn_call (of_fn p s v.shp hB) (Evs.cons Ev.a (Evs.cons Ev.a Evs.nil))) rfl ?_; refine nA rfl rfl ?_; refine ALK.nil ?_; try show WP _ _ _ _ _ _)
  ((repeat apply WP.seq); apply WP.ldraw; refine nM rfl rfl ?_; (first | refine ALK.n (opn_nilPtr (eB rfl)) rfl ?_ | refine ALK.n (opn_nilOff (eB rfl)) rfl ?_); (first | refine ALK.n (opn_field (o := 5) rfl (eB rfl)) rfl ?_ | refine ALK.n (opn_fieldOff (o := 5) rfl (eB rfl)) rfl ?_); (first | refine ALK.n (opn_load rfl (eB rfl) rfl) rfl ?_ | refine ALK.r OpR.ld rfl ?_); (first | refine ALK.n (opn_field (o := 1) rfl (eB rfl)) rfl ?_ | refine ALK.n (opn_fieldOff (o := 1) rfl (eB rfl)) rfl ?_); (first | refine ALK.n (opn_load rfl (eB rfl) rfl) rfl ?_ | refine ALK.r OpR.ld rfl ?_); refine ALK.n OpN.ix rfl ?_; (first | refine ALK.n (opn_load rfl (eB rfl) rfl) rfl ?_ | refine ALK.r OpR.ld rfl ?_); (first | refine ALK.n (opn_field (o := 2) rfl (eB rfl)) rfl ?_ | refine ALK.n (opn_fieldOff (o := 2) rfl (eB rfl)) rfl ?_); (first | refine ALK.n (opn_load rfl (eB rfl) rfl) rfl ?_ | refine ALK.r OpR.ld rfl ?_); refine ALK.n OpN.ix rfl ?_; (first | refine ALK.n (opn_field (o := 0) rfl (eB rfl)) rfl ?_ | refine ALK.n (opn_fieldOff (o := 0) rfl (eB rfl)) rfl ?_); (first | refine ALK.n (opn_load rfl (eB rfl) rfl) rfl ?_ | refine ALK.r OpR.ld rfl ?_); refine nM rfl rfl ?_; (first | refine ALK.n (opn_nilPtr (eB rfl)) rfl ?_ | refine ALK.n (opn_nilOff (eB rfl)) rfl ?_); (first | refine ALK.n (opn_field (o := 5) rfl (eB rfl)) rfl ?_ | refine ALK.n (opn_fieldOff (o := 5) rfl (eB rfl)) rfl ?_); (first | refine ALK.n (opn_load rfl (eB rfl) rfl) rfl ?_ | refine ALK.r OpR.ld rfl ?_); (first | refine ALK.n (opn_field (o := 1) rfl (eB rfl)) rfl ?_ | refine ALK.n (opn_fieldOff (o := 1) rfl (eB rfl)) rfl ?_); (first | refine ALK.n (opn_load rfl (eB rfl) rfl) rfl ?_ | refine ALK.r OpR.ld rfl ?_); refine ALK.n OpN.ix rfl ?_; (first | refine ALK.n (opn_load rfl (eB rfl) rfl) rfl ?_ | refine ALK.r OpR.ld rfl ?_); (first | refine ALK.n (opn_field (o := 2) rfl (eB rfl)) rfl ?_ | refine ALK.n (opn_fieldOff (o := 2) rfl (eB rfl)) rfl ?_); (first | refine ALK.n (opn_load rfl (eB rfl) rfl) rfl ?_ | refine ALK.r OpR.ld rfl ?_); refine ALK.n OpN.ix rfl ?_; (first | refine ALK.n (opn_field (o := 2) rfl (eB rfl)) rfl ?_ | refine ALK.n (opn_fieldOff (o := 2) rfl (eB rfl)) rfl ?_); (first | refine ALK.n (opn_load rfl (eB rfl) rfl) rfl ?_ | refine ALK.r OpR.ld rfl ?_); refine nA rfl rfl ?_; refine nA rfl rfl ?_; refine ALK.nilD (by kernel_rfl) ?_; try show WP _ _ _ _ _ _)
  ((repeat apply WP.seq); apply WP.lreg; (first | refine ALK.n (opn_field (o := 0) rfl (eB rfl)) rfl ?_ | refine ALK.n (opn_fieldOff (o := 0) rfl (eB rfl)) rfl ?_); (first | refine ALK.n (opn_load rfl (eB rfl) rfl) rfl ?_ | refine ALK.r OpR.ld rfl ?_); refine ALK.n OpN.cm rfl ?_; refine ALK.nil ?_; try show WP _ _ _ _ _ _)
  ((repeat apply WP.seq); refine WP.qshift (⟨[(10, .im (IV.bool (hasX p ⟨kind, n, k⟩))), (11, .im (IV.bool (didX s ⟨kind, n, k⟩))), (9, .im (hallV p s)), (3, .im (IV.ptr (cP p))), (4, .im (IV.ptr (cSt s))), (5, .im (IV.ptr [IV.int kind, IV.int (n : Int), IV.int (k : Int)])), (6, .off 0 0)], [(0, .blk 29 [.im (IV.val (.slice none 0 0)), .im (IV.val (.slice none 0 0)), .im (IV.val (.slice none 0 0)), .im (IV.val (.slice none 0 0))])], 1⟩) (WP.cond rfl (fun h => ?_) (fun h => ?_)) ?_)
  · have hk2 : kind = 2 := by simpa using h
    have a1 : hasX p ⟨kind, n, k⟩ = act p n k := by unfold hasX; rw [if_pos hk2]; rfl
    have a2 : didX s ⟨kind, n, k⟩ = bAt s.wr n k := by unfold didX; rw [if_pos hk2]; rfl
    ((repeat apply WP.seq); apply WP.ldraw; refine nM rfl rfl ?_; (first | refine ALK.n (opn_nilPtr (eB rfl)) rfl ?_ | refine ALK.n (opn_nilOff (eB rfl)) rfl ?_); (first | refine ALK.n (opn_field (o := 5) rfl (eB rfl)) rfl ?_ | refine ALK.n (opn_fieldOff (o := 5) rfl (eB rfl)) rfl ?_); (first | refine ALK.n (opn_load rfl (eB rfl) rfl) rfl ?_ | refine ALK.r OpR.ld rfl ?_); (first | refine ALK.n (opn_field (o := 1) rfl (eB rfl)) rfl ?_ | refine ALK.n (opn_fieldOff (o := 1) rfl (eB rfl)) rfl ?_); (first | refine ALK.n (opn_load rfl (eB rfl) rfl) rfl ?_ | refine ALK.r OpR.ld rfl ?_); refine ALK.n OpN.ix rfl ?_; (first | refine ALK.n (opn_load rfl (eB rfl) rfl) rfl ?_ | refine ALK.r OpR.ld rfl ?_); (first | refine ALK.n (opn_field (o := 2) rfl (eB rfl)) rfl ?_ | refine ALK.n (opn_fieldOff (o := 2) rfl (eB rfl)) rfl ?_); (first | refine ALK.n (opn_load rfl (eB rfl) rfl) rfl ?_ | refine ALK.r OpR.ld rfl ?_); refine ALK.n OpN.ix rfl ?_; (first | refine ALK.n (opn_field (o := 1) rfl (eB rfl)) rfl ?_ | refine ALK.n (opn_fieldOff (o := 1) rfl (eB rfl)) rfl ?_); (first | refine ALK.n (opn_load rfl (eB rfl) rfl) rfl ?_ | refine ALK.r OpR.ld rfl ?_); refine nM rfl rfl ?_; (first | refine ALK.n (opn_nilPtr (eB rfl)) rfl ?_ | refine ALK.n (opn_nilOff (eB rfl)) rfl ?_); (first | refine ALK.n (opn_field (o := 5) rfl (eB rfl)) rfl ?_ | refine ALK.n (opn_fieldOff (o := 5) rfl (eB rfl)) rfl ?_); (first | refine ALK.n (opn_load rfl (eB rfl) rfl) rfl ?_ | refine ALK.r OpR.ld rfl ?_); (first | refine ALK.n (opn_field (o := 1) rfl (eB rfl)) rfl ?_ | refine ALK.n (opn_fieldOff (o := 1) rfl (eB rfl)) rfl ?_); (first | refine ALK.n (opn_load rfl (eB rfl) rfl) rfl ?_ | refine ALK.r OpR.ld rfl ?_); refine ALK.n OpN.ix rfl ?_; (first | refine ALK.n (opn_load rfl (eB rfl) rfl) rfl ?_ | refine ALK.r OpR.ld rfl ?_); (first | refine ALK.n (opn_field (o := 2) rfl (eB rfl)) rfl ?_ | refine ALK.n (opn_fieldOff (o := 2) rfl (eB rfl)) rfl ?_); (first | refine ALK.n (opn_load rfl (eB rfl) rfl) rfl ?_ | refine ALK.r OpR.ld rfl ?_); refine ALK.n OpN.ix rfl ?_; (first | refine ALK.n (opn_field (o := 3) rfl (eB rfl)) rfl ?_ | refine ALK.n (opn_fieldOff (o := 3) rfl (eB rfl)) rfl ?_); (first | refine ALK.n (opn_load rfl (eB rfl) rfl) rfl ?_ | refine ALK.r OpR.ld rfl ?_); refine nA rfl rfl ?_; refine nA rfl rfl ?_; refine ALK.nilD (by kernel_rfl) ?_; try show WP _ _ _ _ _ _)
    show Shift _ _ _ _
    exact Shift.sub [(0, 0)] rfl (SubE.cons rfl (SLe.im (ILe.bool a1.symm)) (SubE.cons rfl (SLe.im (ILe.bool a2.symm)) SubE.a)) SubH.a
  · have hk2 : ¬ kind = 2 := by simpa using h
    have a1 : hasX p ⟨kind, n, k⟩ = prt p n k := by unfold hasX; rw [if_neg hk2]; rfl
    have a2 : didX s ⟨kind, n, k⟩ = bAt s.rd n k := by unfold didX; rw [if_neg hk2]; rfl
    refine WP.skip ?_; show Shift _ _ _ _
    exact Shift.sub [(0, 0)] rfl (SubE.cons rfl (SLe.im (ILe.bool a1.symm)) (SubE.cons rfl (SLe.im (ILe.bool a2.symm)) SubE.a)) SubH.a
  ((repeat apply WP.seq); apply WP.block)
  ((repeat apply WP.seq); apply WP.lreg; refine nM rfl rfl ?_; refine ALK.n (opn_not (eB rfl)) rfl ?_; refine nA rfl rfl ?_; refine ALK.nil ?_; try show WP _ _ _ _ _ _)
  ((repeat apply WP.seq); refine WP.cond rfl (fun h => ?_) (fun h => ?_))
  · have hr : doE p s ⟨kind, n, k⟩ = 5 := by rw [hd, if_pos (by simpa using h)]
    exact absurd (h00.symm.trans hr) (by omega)
  rw [if_neg (by simpa using h)] at hd
  clear h
  ((repeat apply WP.seq); apply WP.lreg; refine nM rfl rfl ?_; refine nA rfl rfl ?_; refine ALK.nil ?_; try show WP _ _ _ _ _ _)
  ((repeat apply WP.seq); refine WP.cond rfl (fun h => ?_) (fun h => ?_))
  · have hr : doE p s ⟨kind, n, k⟩ = 7 := by rw [hd, if_pos (by simpa using h)]
    exact absurd (h00.symm.trans hr) (by omega)
  rw [if_neg (by simpa using h)] at hd
  clear h
  ((repeat apply WP.seq); apply WP.lreg; refine nM rfl rfl ?_; (first | refine ALK.n (opn_load rfl (eB rfl) rfl) rfl ?_ | refine ALK.r OpR.ld rfl ?_); refine ALK.n (opn_call (may_fn p s kind n k v.plan hB hn hk) (Evs.cons Ev.a (Evs.cons Ev.a Evs.nil))) rfl ?_; refine ALK.n (opn_not (eB rfl)) rfl ?_; refine nA rfl rfl ?_; refine ALK.nil ?_; try show WP _ _ _ _ _ _)
  ((repeat apply WP.seq); refine WP.cond rfl (fun h => ?_) (fun h => ?_))
  · have hr : doE p s ⟨kind, n, k⟩ = 6 := by rw [hd]; exact if_pos (by simpa using h)
    exact absurd (h00.symm.trans hr) (by omega)
  have hmay : mayB p s kind n k = true := by simpa using h
  have hstep : Step p s kind n k := ⟨hkd, hn, hk, hmay⟩
  have hr : doE p s ⟨kind, n, k⟩ = 0 := by rw [hd]; exact if_neg (by rw [Int.toNat_natCast, Int.toNat_natCast, hmay]; simp)
  have hr2 : doS p s ⟨kind, n, k⟩ = turnS p s kind n k := by unfold doS; rw [if_pos hr]; rfl
  clear h
  rw [hr2]
  (refine WP.skip ?_; show WP _ _ _ _ _ _)
  have b5 : ∀ l ∈ s.rd, l.length ≤ 1000 := len_leB fun i hi => by rw [v.rdr i (by rw [v.rdl] at hi; exact hi)]; omega
  have b6 : ∀ l ∈ s.wr, l.length ≤ 1000 := len_leB fun i hi => by rw [v.wrr i (by rw [v.wrl] at hi; exact hi)]; omega
  have b7 : ∀ l ∈ s.vals, l.length ≤ 1000 := len_le fun i hi => by
    have hi' : i < nT p := by rw [v.vall] at hi; exact hi
    rw [v.valr i hi']
    have := Valid.reads4 v.plan hi'
    omega
  have hown := Own_new s (by rw [v.store]; omega) (by rw [v.rdl]; exact hn8) (by rw [v.wrl, v.rdl]) (by rw [v.vall, v.rdl]) b5 b6 b7
  ((repeat apply WP.seq); apply WP.lreg; (first | refine ALK.n (opn_load rfl (eB rfl) rfl) rfl ?_ | refine ALK.r OpR.ld rfl ?_); refine ALK.e (ope_callE [] hown EvsS.a rfl rfl rfl HIn.a) rfl rfl ?_; refine ALK.a (opa_alloc rfl rfl) rfl ?_; (first | refine ALK.e (ope_store rfl (eB rfl) (eB rfl) Cs.a rfl rfl rfl) rfl rfl ?_ | refine ALK.e (ope_storeRow rfl rfl (eB rfl) (eB rfl) (oc_val rfl) rfl rfl (by assumption)) rfl rfl ?_); refine ALK.nil ?_; try show WP _ _ _ _ _ _)
  ((repeat apply WP.seq); apply WP.lreg; (first | refine ALK.n (opn_load rfl (eB rfl) rfl) rfl ?_ | refine ALK.r OpR.ld rfl ?_); (first | refine ALK.n (opn_load rfl (eB rfl) rfl) rfl ?_ | refine ALK.r OpR.ld rfl ?_); refine ALK.e (ope_callEH [50, 1, 2, 3, 4, 5, 6, 7, 8, 9, 10, 11, 12, 13, 14, 15, 16, 17, 18, 19, 20, 21, 22, 23, 24, 25, 26, 27, 28, 29, 30, 31, 32, 33, 34, 35, 36, 37, 38, 39, 40, 41, 42, 43, 44, 45, 46, 47, 48, 49] (turnH 50 51 52 68 84 (turnS p s kind n k) ++ [(0, .blk 29 [.im (IV.val (.slice none 0 0)), .im (IV.val (.slice none 0 0)), .im (IV.val (.slice none 0 0)), .im (IV.val (.slice none 0 0))])]) (.im (IV.tup [])) 100 (Turn_new p s kind n k v hB hstep) EvsS.a HIn.a rfl (by kernel_rfl) rfl rfl (by kernel_rfl) (by kernel_rfl) (by kernel_rfl)) rfl rfl ?_; refine ALK.nil ?_; try show WP _ _ _ _ _ _)
  generalize turnS p s kind n k = s'
  refine WP.shift (Shift.sub (σ' := [(12, .off 1 0), (6, .off 0 0)]) (H' := (0, .blk 29 [.im (IV.val (.slice none 0 0)), .im (IV.val (.slice none 0 0)), .im (IV.val (.slice none 0 0)), .im (IV.val (.slice none 0 0))]) :: turnH 1 2 3 19 35 s') (fr' := 51) ([(0, 0), (1, 50), (2, 51)] ++ rnN 3 52 ++ rnN 19 68 ++ rnN 35 84) rfl SubE.a (SubH.cons rfl rfl (ObLe.blk SLes.a) (SubH.cons rfl rfl (ObLe.blk SLes.a) (SubH.cons rfl rfl (ObLe.row rfl) (SubH.cons rfl rfl (ObLe.nest rfl) (SubH.cons rfl rfl (ObLe.nest rfl) (SubH.cons rfl rfl (ObLe.nest rfl) SubH.nil))))))) ?_
  ((repeat apply WP.seq); apply WP.lreg; (first | refine ALK.n (opn_load rfl (eB rfl) rfl) rfl ?_ | refine ALK.r OpR.ld rfl ?_); (first | refine ALK.e (ope_store rfl (eB rfl) (eB rfl) Cs.a rfl rfl rfl) rfl rfl ?_ | refine ALK.e (ope_storeRow rfl rfl (eB rfl) (eB rfl) (oc_val rfl) rfl rfl (by assumption)) rfl rfl ?_); refine nA rfl rfl ?_; refine ALK.nil ?_; try show WP _ _ _ _ _ _)
  refine WP.shift (Shift.sub (σ' := [(6, .off 49 0), (7, .im (IV.int 0))]) (H' := (49, .blk 29 [.row 0 s'.store.length, .row 1 s'.rd.length, .row 17 s'.wr.length, .row 33 s'.vals.length]) :: ownH s' 0 1 17 33) (fr' := 50) ([(0, 2), (49, 0)] ++ rnN 1 3 ++ rnN 17 19 ++ rnN 33 35) rfl SubE.a (SubH.cons rfl rfl (ObLe.blk SLes.a) (SubH.cons rfl rfl (ObLe.row rfl) (SubH.cons rfl rfl (ObLe.nest rfl) (SubH.cons rfl rfl (ObLe.nest rfl) (SubH.cons rfl rfl (ObLe.nest rfl) SubH.nil)))))) ?_
  refine WP.ret ?_
  exact RetOkE.svs Try.results21 rfl (.cons (ResSv.cell rfl rfl rfl rfl) (.cons (ResSv.tmp rfl) .nil)) HSb.a Kept.a
end Go.Proofs.Ytjgmbgfcffnanac
