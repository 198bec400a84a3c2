/- Package play: Results. -/
import Derived.Test.YtjgmbgfcffnanacSs6
import Derived.Test.YtjgmbgfcffnanacSpD
namespace Go.Proofs.Ytjgmbgfcffnanac
open Go.RowKit

set_option maxRecDepth 100000 in
set_option maxHeartbeats 1000000 in
theorem Results_fn (p : Plan) (s : StT) (hB : TxsB p.txns) : Fn (Cfg.mk Try.prog (ttAt ttl) ttl_ok.ok mixd) 31 [planV p, stV s] (IV.tup [ressV (resR p s), IV.int (resE p s)]) := by
  refine Fn.of_wp _ Try.func31 rfl (by kernel_rfl) Try.ntmps31 rfl ?_
  intro F hD hG
  ((repeat apply WP.seq); apply WP.lreg; refine ALK.n (opn_box (eB rfl) Cs.a rfl) rfl ?_; refine ALK.n (opn_box (eB rfl) Cs.a rfl) rfl ?_; refine nA rfl rfl ?_; refine nA rfl rfl ?_; refine ALK.nil ?_; try show WP _ _ _ _ _ _)
  ((repeat apply WP.seq); apply WP.lreg; (first | refine ALK.n (opn_load rfl (eB rfl) rfl) rfl ?_ | refine ALK.r OpR.ld rfl ?_); (first | refine ALK.n (opn_load rfl (eB rfl) rfl) rfl ?_ | refine ALK.r OpR.ld rfl ?_); refine ALK.n (opn_call (Over_fn p s hB) (Evs.cons Ev.a (Evs.cons Ev.a Evs.nil))) rfl ?_; refine nM rfl rfl ?_; refine nX rfl rfl rfl ?_; refine nX rfl rfl rfl ?_; refine nA rfl rfl ?_; refine nA rfl rfl ?_; refine ALK.nil ?_; try show WP _ _ _ _ _ _)
  ((repeat apply WP.seq); apply WP.lreg; refine nM rfl rfl ?_; refine ALK.n OpN.cm rfl ?_; refine ALK.nil ?_; try show WP _ _ _ _ _ _)
  ((repeat apply WP.seq); refine WP.cond rfl (fun h => ?_) (fun h => ?_))
  · ((repeat apply WP.seq); apply WP.lreg; refine nM rfl rfl ?_; refine nA rfl rfl ?_; refine nA rfl rfl ?_; refine ALK.nil ?_; try show WP _ _ _ _ _ _)
    have hne : ¬ checkState p s = 0 := by simpa using h
    have h1 : resE p s = checkState p s := by unfold resE; rw [if_neg hne]
    have h2 : resR p s = [] := by unfold resR; rw [h1, if_neg hne]
    rw [h1, h2]
    ((repeat apply WP.seq); refine WP.ret ?_; first | exact RetOk.one Try.results31 ResV.a | exact RetOk.tup Try.results31 rfl ResVs.a)
  (refine WP.skip ?_; show WP _ _ _ _ _ _)
  have h0 : checkState p s = 0 := by simpa using h
  have v := valid_iff.1 h0
  obtain ⟨hm, hm1, hm4, hn8, hall⟩ := plan_m v.plan
  have hnT : nT p = p.txns.length := rfl
  have hov : overE p s = overB p s := by unfold overE; rw [decide_eq_true h0]; rfl
  clear h
  ((repeat apply WP.seq); apply WP.lreg; refine nM rfl rfl ?_; refine ALK.n (opn_not (eB rfl)) rfl ?_; refine ALK.nil ?_; try show WP _ _ _ _ _ _)
  rw [hov]
  ((repeat apply WP.seq); refine WP.cond rfl (fun h => ?_) (fun h => ?_))
  · ((repeat apply WP.seq); apply WP.lreg; refine nA rfl rfl ?_; refine nA rfl rfl ?_; refine ALK.nil ?_; try show WP _ _ _ _ _ _)
    have ho : overB p s = false := by simpa using h
    have h1 : resE p s = 8 := by unfold resE; rw [if_pos h0, ho]; rfl
    have h2 : resR p s = [] := by unfold resR; rw [h1]; rfl
    rw [h1, h2]
    ((repeat apply WP.seq); refine WP.ret ?_; first | exact RetOk.one Try.results31 ResV.a | exact RetOk.tup Try.results31 rfl ResVs.a)
  (refine WP.skip ?_; show WP _ _ _ _ _ _)
  have ho : overB p s = true := by simpa using h
  have h1 : resE p s = 0 := by unfold resE; rw [if_pos h0, ho]; rfl
  have h2 : resR p s = resTo p s (nT p) := by unfold resR; rw [if_pos h1]
  rw [h1, h2]
  clear h
  ((repeat apply WP.seq); apply WP.lreg; refine nA rfl rfl ?_; refine ALK.nil ?_; try show WP _ _ _ _ _ _)
  refine WP.shift (Shift.row0 8 68 2 cR (fun _ => rfl) rfl) ?_
  ((repeat apply WP.seq); apply WP.lreg; (first | refine ALK.n (opn_field (o := 1) rfl (eB rfl)) rfl ?_ | refine ALK.n (opn_fieldOff (o := 1) rfl (eB rfl)) rfl ?_); (first | refine ALK.n (opn_load rfl (eB rfl) rfl) rfl ?_ | refine ALK.r OpR.ld rfl ?_); refine ALK.n OpN.ln rfl ?_; refine nM rfl rfl ?_; refine ALK.nil ?_; try show WP _ _ _ _ _ _)
  ((repeat apply WP.seq); apply WP.block)
  refine WP.loop (fun n : Nat => ⟨[(27, .im (IV.int n)), (25, .im (txsV p.txns)), (26, .im (IV.int p.txns.length)), (8, .row 0 n), (2, .im (IV.ptr (cP p))), (3, .im (IV.ptr (cSt s)))], [(0, .row 68 2 cR (resTo p s n))], 1⟩) (fun n => n ≤ nT p) (fun n => nT p - n) 0 (Nat.zero_le _) (Shift.sub [(0, 0)] rfl SubE.a SubH.a) ?_
  rintro n hn
  ((repeat apply WP.seq); apply WP.lreg; refine ALK.n OpN.cm rfl ?_; refine ALK.nil ?_; try show WP _ _ _ _ _ _)
  ((repeat apply WP.seq); refine WP.cond rfl (fun h => ?_) (fun h => ?_))
  · (refine WP.skip ?_; show WP _ _ _ _ _ _)
    have hlt : n < nT p := by simp at h; omega
    obtain ⟨ht, hok⟩ := hall n hlt
    have hbt : TxnB (txN p n) := hB _ (List.mem_of_getElem? ht)
    have e3 := v.shp.vals hlt
    have hx := resTo_next p s n
    have hl := resTo_len p s n
    ((repeat apply WP.seq); apply WP.block)
    ((repeat apply WP.seq); apply WP.lreg; refine nM rfl rfl ?_; refine ALK.n OpN.ix rfl ?_; (first | refine ALK.n (opn_load rfl (eB rfl) rfl) rfl ?_ | refine ALK.r OpR.ld rfl ?_); refine ALK.a (opa_alloc rfl rfl) rfl ?_; refine nA rfl rfl ?_; (first | refine ALK.e (ope_store rfl (eB rfl) (eB rfl) Cs.a rfl rfl rfl) rfl rfl ?_ | refine ALK.e (ope_storeRow rfl rfl (eB rfl) (eB rfl) (oc_val rfl) rfl rfl (by assumption)) rfl rfl ?_); refine ALK.nil ?_; try show WP _ _ _ _ _ _)
    refine WP.shift (Shift.frzBlk 10 rfl rfl rfl) ?_
    ((repeat apply WP.seq); apply WP.ldraw; (first | refine ALK.n (opn_load rfl (eB rfl) rfl) rfl ?_ | refine ALK.r OpR.ld rfl ?_); (first | refine ALK.n (opn_field (o := 3) rfl (eB rfl)) rfl ?_ | refine ALK.n (opn_fieldOff (o := 3) rfl (eB rfl)) rfl ?_); (first | refine ALK.n (opn_load rfl (eB rfl) rfl) rfl ?_ | refine ALK.r OpR.ld rfl ?_); refine nM rfl rfl ?_; refine ALK.n OpN.ix rfl ?_; (first | refine ALK.n (opn_load rfl (eB rfl) rfl) rfl ?_ | refine ALK.r OpR.ld rfl ?_); refine ALK.n (opn_call (txn_Do_fn (txN p n) (s.vals.getD n []) hbt hok (v.valr n hlt)) (Evs.cons Ev.a (Evs.cons Ev.a Evs.nil))) rfl ?_; refine nM rfl rfl ?_; refine nX rfl rfl rfl ?_; refine nX rfl rfl rfl ?_; refine ALK.a (opa_alloc rfl rfl) rfl ?_; (first | refine ALK.e (ope_store rfl (eB rfl) (eB rfl) Cs.a rfl rfl rfl) rfl rfl ?_ | refine ALK.e (ope_storeRow rfl rfl (eB rfl) (eB rfl) (oc_val rfl) rfl rfl (by assumption)) rfl rfl ?_); refine nA rfl rfl ?_; refine ALK.nilD (by kernel_rfl) ?_; try show WP _ _ _ _ _ _)
    refine WP.shift (Shift.frzBlk 11 rfl rfl rfl) ?_
    ((repeat apply WP.seq); apply WP.lreg; refine nM rfl rfl ?_; (first | refine ALK.n (opn_load rfl (eB rfl) rfl) rfl ?_ | refine ALK.r OpR.ld rfl ?_); refine ALK.n (opn_slit rfl rfl rfl rfl rfl rfl (Pc rfl (eB rfl) Cs.a rfl rfl Parts.nil) rfl) rfl ?_; refine ALK.e (ope_append (b := 32) [(⟨runDone (txN p n) (s.vals.getD n []), s.vals.getD n []⟩ : Res)] rfl rfl rfl rfl rfl (eB rfl) (eB rfl) rfl rfl (by rw [hl]; simp; omega) rfl) rfl rfl ?_; refine nA rfl rfl ?_; refine ALK.nil ?_; try show WP _ _ _ _ _ _)
    ((repeat apply WP.seq); apply WP.lreg; refine ALK.n OpN.ar rfl ?_; refine nM rfl rfl ?_; refine ALK.nil ?_; try show WP _ _ _ _ _ _)
    show ∃ _, _ ∧ _ ∧ _
    exact ⟨n + 1, by omega, by omega, Shift.sub [(0, 3)] rfl (SubE.cons rfl SLe.a (SubE.cons rfl SLe.a (SubE.cons rfl SLe.a (SubE.cons rfl (SLe.row rfl (by rw [hl]; rfl)) SubE.a)))) (SubH.cons rfl rfl (ObLe.row hx.symm) SubH.nil)⟩
  · ((repeat apply WP.seq); refine WP.exit ?_; show WP _ _ _ _ _ _)
    have hn2 : n = nT p := by simp at h; omega
    subst hn2
    refine WP.shift (Shift.frzRow 8 rfl rfl) ?_
    ((repeat apply WP.seq); apply WP.lreg; refine nM rfl rfl ?_; refine nA rfl rfl ?_; refine nA rfl rfl ?_; refine ALK.nil ?_; try show WP _ _ _ _ _ _)
    ((repeat apply WP.seq); refine WP.ret ?_; first | exact RetOk.one Try.results31 ResV.a | exact RetOk.tup Try.results31 rfl ResVs.a)


end Go.Proofs.Ytjgmbgfcffnanac
