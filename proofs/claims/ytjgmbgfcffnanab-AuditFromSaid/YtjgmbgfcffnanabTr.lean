/- Package txn: Run (a copy of what stands in the transactions' text: never import both). -/
import Derived.Test.YtjgmbgfcffnanabSt2
namespace Go.Proofs.Ytjgmbgfcffnanab
open Go.RowKit

def runE (t : Txn) (xs : List Int) : Int := if checkTxn t = 0 then (if xs.length = t.reads.length then 0 else 3) else checkTxn t
def runV (t : Txn) (xs : List Int) : Res := if runE t xs = 0 then ⟨runDone t xs, xs⟩ else res0
def runL (t : Txn) (xs : List Int) : List Int := if runE t xs = 0 then runSets t xs else []
theorem runE_zero {t : Txn} {xs : List Int} (h : runE t xs = 0) : checkTxn t = 0 ∧ xs.length = t.reads.length := by
  unfold runE at h
  split at h
  · split at h
    · exact ⟨by assumption, by assumption⟩
    · cases h
  · exact absurd h (by assumption)

set_option maxRecDepth 100000 in
theorem txn_Run_fn (t : Txn) (xs : List Int) (hb : TxnB t) : Fn (Cfg.mk Try.prog (ttAt ttl) ttl_ok.ok mixd) 29 [txnV t, intsV xs] (IV.tup [resV (runV t xs), intsV (runL t xs), IV.int (runE t xs)]) := by
  refine Fn.of_wp _ Try.func29 rfl (by kernel_rfl) Try.ntmps29 rfl ?_
  intro F hD hG
  refine WP.len 1 rfl (fun hl1 => ?_)
  ((repeat apply WP.seq); apply WP.lreg; refine ALK.n (opn_box (eB rfl) Cs.a rfl) rfl ?_; refine ALK.a (opa_alloc rfl rfl) rfl ?_; refine nA rfl rfl ?_; refine nA rfl rfl ?_; refine ALK.nil ?_; try show WP _ _ _ _ _ _)
  ((repeat apply WP.seq); apply WP.lreg; (first | refine ALK.n (opn_load rfl (eB rfl) rfl) rfl ?_ | refine ALK.r OpR.ld rfl ?_); refine ALK.n (opn_call (txn_Check_fn _ (by assumption)) (Evs.cons Ev.a Evs.nil)) rfl ?_; refine nA rfl rfl ?_; refine ALK.nil ?_; try show WP _ _ _ _ _ _)
  ((repeat apply WP.seq); apply WP.lreg; refine nM rfl rfl ?_; refine ALK.n OpN.cm rfl ?_; refine ALK.nil ?_; try show WP _ _ _ _ _ _)
  ((repeat apply WP.seq); refine WP.cond rfl (fun h => ?_) (fun h => ?_))
  · ((repeat apply WP.seq); apply WP.lreg; (first | refine ALK.n (opn_build rfl rfl rfl rfl Parts.nil) rfl ?_ | refine ALK.n (opn_buildA rfl rfl rfl rfl rfl Parts.nil) rfl ?_); refine nM rfl rfl ?_; (first | refine ALK.e (ope_store rfl (eB rfl) (eB rfl) Cs.a rfl rfl rfl) rfl rfl ?_ | refine ALK.e (ope_storeRow rfl rfl (eB rfl) (eB rfl) (oc_val rfl) rfl rfl (by assumption)) rfl rfl ?_); refine nA rfl rfl ?_; refine nA rfl rfl ?_; refine ALK.nil ?_; try show WP _ _ _ _ _ _)
    have hne : ¬ checkTxn t = 0 := by simpa using h
    have hr : runE t xs = checkTxn t := by unfold runE; rw [if_neg hne]
    have hr1 : runV t xs = res0 := by unfold runV; rw [hr, if_neg hne]
    have hr2 : runL t xs = [] := by unfold runL; rw [hr, if_neg hne]
    rw [hr, hr1, hr2]
    ((repeat apply WP.seq); refine WP.ret ?_; first | exact RetOk.one Try.results29 ResV.a | exact RetOk.tup Try.results29 rfl ResVs.a)
  (refine WP.skip ?_; show WP _ _ _ _ _ _)
  have hok : checkTxn t = 0 := by simpa using h
  ((repeat apply WP.seq); apply WP.lreg; refine nM rfl rfl ?_; refine ALK.n OpN.ln rfl ?_; (first | refine ALK.n (opn_field (o := 0) rfl (eB rfl)) rfl ?_ | refine ALK.n (opn_fieldOff (o := 0) rfl (eB rfl)) rfl ?_); (first | refine ALK.n (opn_load rfl (eB rfl) rfl) rfl ?_ | refine ALK.r OpR.ld rfl ?_); refine ALK.n OpN.ln rfl ?_; refine ALK.n OpN.cm rfl ?_; refine ALK.nil ?_; try show WP _ _ _ _ _ _)
  ((repeat apply WP.seq); refine WP.cond rfl (fun h => ?_) (fun h => ?_))
  · ((repeat apply WP.seq); apply WP.lreg; (first | refine ALK.n (opn_build rfl rfl rfl rfl Parts.nil) rfl ?_ | refine ALK.n (opn_buildA rfl rfl rfl rfl rfl Parts.nil) rfl ?_); (first | refine ALK.e (ope_store rfl (eB rfl) (eB rfl) Cs.a rfl rfl rfl) rfl rfl ?_ | refine ALK.e (ope_storeRow rfl rfl (eB rfl) (eB rfl) (oc_val rfl) rfl rfl (by assumption)) rfl rfl ?_); refine nA rfl rfl ?_; refine nA rfl rfl ?_; refine ALK.nil ?_; try show WP _ _ _ _ _ _)
    have hne : ¬ xs.length = t.reads.length := by simp at h; omega
    have hr : runE t xs = 3 := by unfold runE; rw [if_pos hok, if_neg hne]
    have hr1 : runV t xs = res0 := by unfold runV; rw [hr]; rfl
    have hr2 : runL t xs = [] := by unfold runL; rw [hr]; rfl
    rw [hr, hr1, hr2]
    ((repeat apply WP.seq); refine WP.ret ?_; first | exact RetOk.one Try.results29 ResV.a | exact RetOk.tup Try.results29 rfl ResVs.a)
  (refine WP.skip ?_; show WP _ _ _ _ _ _)
  have hlen : xs.length = t.reads.length := by simp at h; omega
  have hr : runE t xs = 0 := by unfold runE; rw [if_pos hok, if_pos hlen]
  have hr1 : runV t xs = ⟨runDone t xs, xs⟩ := by unfold runV; rw [if_pos hr]
  have hr2 : runL t xs = runSets t xs := by unfold runL; rw [if_pos hr]
  ((repeat apply WP.seq); apply WP.lreg; (first | refine ALK.n (opn_load rfl (eB rfl) rfl) rfl ?_ | refine ALK.r OpR.ld rfl ?_); refine nM rfl rfl ?_; refine ALK.n (opn_call (txn_Do_fn t xs hb hok hlen) (Evs.cons Ev.a (Evs.cons Ev.a Evs.nil))) rfl ?_; refine nM rfl rfl ?_; refine nX rfl rfl rfl ?_; refine nX rfl rfl rfl ?_; refine ALK.a (opa_alloc rfl rfl) rfl ?_; (first | refine ALK.e (ope_store rfl (eB rfl) (eB rfl) Cs.a rfl rfl rfl) rfl rfl ?_ | refine ALK.e (ope_storeRow rfl rfl (eB rfl) (eB rfl) (oc_val rfl) rfl rfl (by assumption)) rfl rfl ?_); refine nA rfl rfl ?_; refine ALK.nil ?_; try show WP _ _ _ _ _ _)
  ((repeat apply WP.seq); apply WP.lreg; (first | refine ALK.n (opn_load rfl (eB rfl) rfl) rfl ?_ | refine ALK.r OpR.ld rfl ?_); refine nM rfl rfl ?_; (first | refine ALK.e (ope_store rfl (eB rfl) (eB rfl) Cs.a rfl rfl rfl) rfl rfl ?_ | refine ALK.e (ope_storeRow rfl rfl (eB rfl) (eB rfl) (oc_val rfl) rfl rfl (by assumption)) rfl rfl ?_); refine nA rfl rfl ?_; refine nA rfl rfl ?_; refine ALK.nil ?_; try show WP _ _ _ _ _ _)
  rw [hr, hr1, hr2]
  ((repeat apply WP.seq); refine WP.ret ?_; first | exact RetOk.one Try.results29 ResV.a | exact RetOk.tup Try.results29 rfl ResVs.a)
theorem rising_pws : ∀ {l : List Int}, rising l = true → l.Pairwise (· < ·)
  | [], _ => List.Pairwise.nil
  | [a], _ => List.pairwise_singleton _ _
  | a :: b :: l, h => by
    simp only [rising, Bool.and_eq_true, decide_eq_true_eq] at h
    have h1 := rising_pws h.2
    rw [List.pairwise_cons]
    refine ⟨fun x hx => ?_, h1⟩
    rcases List.mem_cons.1 hx with rfl | hx
    · exact h.1
    · have := (List.pairwise_cons.1 h1).1 x hx; omega
end Go.Proofs.Ytjgmbgfcffnanab
