/- Package play: On and Play. -/
import Derived.Test.YtjgmbgfcffnanacSi
import Derived.Test.YtjgmbgfcffnanacSs6
namespace Go.Proofs.Ytjgmbgfcffnanac
open Go.RowKit

set_option maxRecDepth 100000 in
set_option maxHeartbeats 4000000 in
theorem On_new (p : Plan) (s0 : StT) (picks : List Int) (v0 : Valid p s0) (hB : TxsB p.txns) (hpk : ∀ x ∈ picks, I64 x) (h200 : picks.length ≤ 200) :
    FnE (Cfg.mk Try.prog (ttAt ttl) ttl_ok.ok mixd) 73 50 [.im (planV p), .off 0 0, .im (intsV picks)] (turnH 0 1 2 18 34 s0) (.im (IV.int ((onF p picks s0 0).2 : Int))) (turnH 0 50 51 67 83 (onF p picks s0 0).1) 99 [0] := by
  have h64 := togo_le v0
  refine FnE.of_wp _ [(0, 1)] Try.func73 rfl (by kernel_rfl) Try.ntmps73 rfl rfl rfl rfl rfl rfl rfl rfl rfl ?_
  intro F vs hD hvs
  obtain ⟨v0', v1, v2, rfl⟩ := len3 hvs
  show WP _ _ _ _ _ ⟨[(0, .im (planV p)), (1, .is v1 (.off 0 0)), (2, .im (intsV picks))], turnH 0 1 2 18 34 s0, 50⟩
  ((repeat apply WP.seq); apply WP.lreg; refine ALK.n (opn_box (eB rfl) Cs.a rfl) rfl ?_; refine nA rfl rfl ?_; refine ALK.nil ?_; try show WP _ _ _ _ _ _)
  ((repeat apply WP.seq); apply WP.lreg; refine nA rfl rfl ?_; refine ALK.nil ?_; try show WP _ _ _ _ _ _)
  ((repeat apply WP.seq); apply WP.block)
  refine WP.loop (fun c : StT × Nat => ⟨[(7, .im (IV.int c.2)), (1, .is v1 (.off 0 0)), (2, .im (intsV picks)), (3, .im (IV.ptr (cP p)))], turnH 0 1 2 18 34 c.1, 50⟩) (fun c => Valid p c.1 ∧ onF p picks c.1 c.2 = onF p picks s0 0 ∧ c.2 + togo p c.1 ≤ 64) (fun c => togo p c.1) (s0, 0) ⟨v0, rfl, by simp only; omega⟩ (Shift.sub ([(0, 0), (1, 1)] ++ rnN 2 2 ++ rnN 18 18 ++ rnN 34 34) rfl SubE.a (SubH.cons rfl rfl (ObLe.blk SLes.a) (SubH.cons rfl rfl (ObLe.row rfl) (SubH.cons rfl rfl (ObLe.nest rfl) (SubH.cons rfl rfl (ObLe.nest rfl) (SubH.cons rfl rfl (ObLe.nest rfl) SubH.nil)))))) ?_
  rintro ⟨s, n⟩ ⟨v, he, hn⟩
  simp only at v he hn
  ((repeat apply WP.seq); apply WP.ldraw; (first | refine ALK.n (opn_load rfl (eB rfl) rfl) rfl ?_ | refine ALK.r OpR.ld rfl ?_); refine ALK.n (opn_move (Ev.is rfl)) rfl ?_; (first | refine ALK.n (opn_nilPtr (eB rfl)) rfl ?_ | refine ALK.n (opn_nilOff (eB rfl)) rfl ?_); (first | refine ALK.n (opn_load rfl (eB rfl) rfl) rfl ?_ | refine ALK.r OpR.ld rfl ?_); refine ALK.r (opr_callLendS (FnN.of_flat (Ended_fn p s v.shp hB) (FlatI.val _)) (LentS.cons Ev.a .im (LentS.cons (eB rfl) (lnd_st rfl rfl rfl rfl) .nil))) rfl ?_; refine ALK.n (opn_not (eB rfl)) rfl ?_; refine ALK.nilD (by kernel_rfl) ?_; try show WP _ _ _ _ _ _)
  ((repeat apply WP.seq); refine WP.cond rfl (fun h => ?_) (fun h => ?_))
  · (refine WP.skip ?_; show WP _ _ _ _ _ _)
    have ho : overB p s = false := by simpa using h
    clear h
    obtain ⟨v2, ht, hgo⟩ := onF_go (picks := picks) (n := n) v ho
    obtain ⟨x, hx, hnx, hat, hlen⟩ := nxt_at v ho picks n
    have hp0 := pick_nn picks n
    obtain ⟨hst', a1, a2, a3, a4⟩ := Step.of_mem hx
    obtain ⟨kind, tn, sh⟩ := x
    simp only at a1 a2 a3 a4 hst'
    obtain ⟨i, rfl⟩ : ∃ i : Nat, tn = i := ⟨tn.toNat, by omega⟩
    obtain ⟨k, rfl⟩ : ∃ k : Nat, sh = k := ⟨sh.toNat, by omega⟩
    have hnx2 : nxt p picks s n = turnS p s kind i k := hnx
    have hst2 : Step p s kind i k := hst'
    have hmod : 0 ≤ pickN picks n % ((canL p s).length : Int) := Int.emod_nonneg _ (by omega)
    ((repeat apply WP.seq); apply WP.block)
    ((repeat apply WP.seq); apply WP.ldraw; (first | refine ALK.n (opn_load rfl (eB rfl) rfl) rfl ?_ | refine ALK.r OpR.ld rfl ?_); refine ALK.n (opn_move (Ev.is rfl)) rfl ?_; (first | refine ALK.n (opn_nilPtr (eB rfl)) rfl ?_ | refine ALK.n (opn_nilOff (eB rfl)) rfl ?_); (first | refine ALK.n (opn_load rfl (eB rfl) rfl) rfl ?_ | refine ALK.r OpR.ld rfl ?_); refine ALK.r (opr_callLendS (Steps_new p s v hB) (LentS.cons Ev.a .im (LentS.cons (eB rfl) (lnd_st rfl rfl rfl rfl) .nil))) rfl ?_; refine nA rfl rfl ?_; refine ALK.nilD (by kernel_rfl) ?_; try show WP _ _ _ _ _ _)
    ((repeat apply WP.seq); apply WP.lreg; refine nA rfl rfl ?_; refine ALK.nil ?_; try show WP _ _ _ _ _ _)
    ((repeat apply WP.seq); apply WP.lreg; refine nM rfl rfl ?_; refine nM rfl rfl ?_; refine ALK.n OpN.ln rfl ?_; refine ALK.n OpN.cm rfl ?_; refine ALK.nil ?_; try show WP _ _ _ _ _ _)
    ((repeat apply WP.seq); refine WP.qshift (⟨[(9, .im (IV.int (pickN picks n))), (8, .im (stpsV (canL p s))), (7, .im (IV.int n)), (1, .is v1 (.off 0 0)), (2, .im (intsV picks)), (3, .im (IV.ptr (cP p)))], turnH 0 1 2 18 34 s, 50⟩) (WP.cond rfl (fun h => ?_) (fun h => ?_)) ?_)
    · have hnl : n < picks.length := by simpa using h
      obtain ⟨pk, hpkn⟩ := get_at hnl
      have hpi := hpk pk (List.mem_of_getElem? hpkn)
      have hpi' : -9223372036854775808 ≤ pk ∧ pk ≤ 9223372036854775807 := hpi
      have hpN : pickN picks n = if pk < 0 then -(pk + 1) else pk := by unfold pickN; rw [hpkn]
      ((repeat apply WP.seq); apply WP.lreg; refine nM rfl rfl ?_; refine nM rfl rfl ?_; refine ALK.n OpN.ix rfl ?_; (first | refine ALK.n (opn_load rfl (eB rfl) rfl) rfl ?_ | refine ALK.r OpR.ld rfl ?_); refine nA rfl rfl ?_; refine ALK.nil ?_; try show WP _ _ _ _ _ _)
      ((repeat apply WP.seq); apply WP.lreg; refine nM rfl rfl ?_; refine ALK.n OpN.cm rfl ?_; refine ALK.nil ?_; try show WP _ _ _ _ _ _)
      ((repeat apply WP.seq); refine WP.cond rfl (fun h => ?_) (fun h => ?_))
      · rw [if_pos (by simpa using h)] at hpN
        ((repeat apply WP.seq); apply WP.lreg; refine nM rfl rfl ?_; refine ALK.n OpN.ar rfl ?_; refine ALK.n (opn_neg (eB rfl) (by omega) (by omega)) rfl ?_; refine nA rfl rfl ?_; refine ALK.nil ?_; try show WP _ _ _ _ _ _)
        show Shift _ _ _ _
        exact Shift.sub ([(0, 0), (1, 1)] ++ rnN 2 2 ++ rnN 18 18 ++ rnN 34 34) rfl (SubE.cons rfl (SLe.im (ILe.int hpN.symm)) SubE.a) (SubH.cons rfl rfl (ObLe.blk SLes.a) (SubH.cons rfl rfl (ObLe.row rfl) (SubH.cons rfl rfl (ObLe.nest rfl) (SubH.cons rfl rfl (ObLe.nest rfl) (SubH.cons rfl rfl (ObLe.nest rfl) SubH.nil)))))
      · rw [if_neg (by simpa using h)] at hpN
        refine WP.skip ?_; show Shift _ _ _ _
        exact Shift.sub ([(0, 0), (1, 1)] ++ rnN 2 2 ++ rnN 18 18 ++ rnN 34 34) rfl (SubE.cons rfl (SLe.im (ILe.int hpN.symm)) SubE.a) (SubH.cons rfl rfl (ObLe.blk SLes.a) (SubH.cons rfl rfl (ObLe.row rfl) (SubH.cons rfl rfl (ObLe.nest rfl) (SubH.cons rfl rfl (ObLe.nest rfl) (SubH.cons rfl rfl (ObLe.nest rfl) SubH.nil)))))
    · have hnl : ¬ n < picks.length := by simpa using h
      have hpN : pickN picks n = 0 := by
        unfold pickN; rw [List.getElem?_eq_none (by omega)]
      refine WP.skip ?_; show Shift _ _ _ _
      exact Shift.sub ([(0, 0), (1, 1)] ++ rnN 2 2 ++ rnN 18 18 ++ rnN 34 34) rfl (SubE.cons rfl (SLe.im (ILe.int hpN.symm)) SubE.a) (SubH.cons rfl rfl (ObLe.blk SLes.a) (SubH.cons rfl rfl (ObLe.row rfl) (SubH.cons rfl rfl (ObLe.nest rfl) (SubH.cons rfl rfl (ObLe.nest rfl) (SubH.cons rfl rfl (ObLe.nest rfl) SubH.nil)))))
    ((repeat apply WP.seq); apply WP.ldraw; (first | refine ALK.n (opn_load rfl (eB rfl) rfl) rfl ?_ | refine ALK.r OpR.ld rfl ?_); refine ALK.n (opn_move (Ev.is rfl)) rfl ?_; refine nM rfl rfl ?_; refine nM rfl rfl ?_; refine nM rfl rfl ?_; refine ALK.n OpN.ln rfl ?_; refine ALK.n (opn_rem (eB rfl) (eB rfl) (by omega) (by omega)) rfl ?_; refine ALK.n OpN.ix rfl ?_; (first | refine ALK.n (opn_load rfl (eB rfl) rfl) rfl ?_ | refine ALK.r OpR.ld rfl ?_); refine ALK.e (ope_callEH [0, 1, 2, 3, 4, 5, 6, 7, 8, 9, 10, 11, 12, 13, 14, 15, 16, 17, 18, 19, 20, 21, 22, 23, 24, 25, 26, 27, 28, 29, 30, 31, 32, 33, 34, 35, 36, 37, 38, 39, 40, 41, 42, 43, 44, 45, 46, 47, 48, 49] (turnH 0 50 51 67 83 (turnS p s kind i k)) (.im (IV.tup [])) 99 (Turn_new p s kind i k v hB hst2) EvsS.a HIn.a rfl (by kernel_rfl) rfl rfl (by kernel_rfl) (by kernel_rfl) (by kernel_rfl)) rfl rfl ?_; refine ALK.nilD (by kernel_rfl) ?_; try show WP _ _ _ _ _ _)
    ((repeat apply WP.seq); apply WP.lreg; refine nM rfl rfl ?_; refine ALK.n OpN.ar rfl ?_; refine nA rfl rfl ?_; refine ALK.nil ?_; try show WP _ _ _ _ _ _)
    show ∃ _, _ ∧ _ ∧ _
    rw [hgo, hnx2] at he
    rw [hnx2] at v2 ht
    exact ⟨(turnS p s kind i k, n + 1), ⟨v2, he, by simp only; omega⟩, by simp only; omega, Shift.sub ([(0, 0), (1, 50)] ++ rnN 2 51 ++ rnN 18 67 ++ rnN 34 83) rfl SubE.a (SubH.cons rfl rfl (ObLe.blk SLes.a) (SubH.cons rfl rfl (ObLe.row rfl) (SubH.cons rfl rfl (ObLe.nest rfl) (SubH.cons rfl rfl (ObLe.nest rfl) (SubH.cons rfl rfl (ObLe.nest rfl) SubH.nil)))))⟩
  · ((repeat apply WP.seq); refine WP.exit ?_; show WP _ _ _ _ _ _)
    have ho : overB p s = true := by simpa using h
    rw [onF_over ho] at he
    rw [← he]
    ((repeat apply WP.seq); apply WP.lreg; refine nM rfl rfl ?_; refine nA rfl rfl ?_; refine ALK.nil ?_; try show WP _ _ _ _ _ _)
    refine WP.shift (Shift.sub (σ' := [(6, .im (IV.int n)), (1, .is v1 (.off 0 0))]) (H' := turnH 0 50 51 67 83 s) (fr' := 99) ([(0, 0), (50, 1)] ++ rnN 51 2 ++ rnN 67 18 ++ rnN 83 34) rfl SubE.a (SubH.cons rfl rfl (ObLe.blk SLes.a) (SubH.cons rfl rfl (ObLe.row rfl) (SubH.cons rfl rfl (ObLe.nest rfl) (SubH.cons rfl rfl (ObLe.nest rfl) (SubH.cons rfl rfl (ObLe.nest rfl) SubH.nil)))))) ?_
    ((repeat apply WP.seq); refine WP.ret ?_; first | exact RetOkE.none Try.results73 HSb.a Kept.a | exact RetOkE.one Try.results73 ResV.a HSb.a Kept.a | exact RetOkE.sv Try.results73 rfl HSb.a Kept.a | exact RetOkE.tup Try.results73 rfl ResVs.a HSb.a Kept.a)
set_option maxRecDepth 100000 in
set_option maxHeartbeats 4000000 in
theorem Play_ok (p : Plan) (st picks : List Int) (h0 : beginE p st = 0) (hB : TxsB p.txns) (hpk : ∀ x ∈ picks, I64 x) : Fn (Cfg.mk Try.prog (ttAt ttl) ttl_ok.ok mixd) 27 [planV p, intsV st, intsV picks] (IV.tup [stV (playS p st picks), IV.int (playN p st picks), IV.int (playE p st picks)]) := by
  have vb := Valid.begin h0
  have h64 := togo_le vb
  refine Fn.of_wp _ Try.func27 rfl (by kernel_rfl) Try.ntmps27 rfl ?_
  intro F hD hG
  ((repeat apply WP.seq); apply WP.lreg; refine ALK.n (opn_box (eB rfl) Cs.a rfl) rfl ?_; refine ALK.a (opa_alloc rfl rfl) rfl ?_; refine nA rfl rfl ?_; refine nA rfl rfl ?_; refine ALK.nil ?_; try show WP _ _ _ _ _ _)
  ((repeat apply WP.seq); apply WP.lreg; (first | refine ALK.n (opn_load rfl (eB rfl) rfl) rfl ?_ | refine ALK.r OpR.ld rfl ?_); refine nM rfl rfl ?_; refine ALK.e (ope_callE [] (Begin_new p st hB h0) EvsS.a rfl rfl rfl HIn.a) rfl rfl ?_; refine nM rfl rfl ?_; refine ALK.n (opn_extractS (eB rfl) rfl) rfl ?_; refine ALK.n (opn_extractS (eB rfl) rfl) rfl ?_; refine ALK.a (opa_alloc rfl rfl) rfl ?_; (first | refine ALK.e (ope_store rfl (eB rfl) (eB rfl) Cs.a rfl rfl rfl) rfl rfl ?_ | refine ALK.e (ope_storeRow rfl rfl (eB rfl) (eB rfl) (oc_val rfl) rfl rfl (by assumption)) rfl rfl ?_); refine nA rfl rfl ?_; refine ALK.nil ?_; try show WP _ _ _ _ _ _)
  ((repeat apply WP.seq); apply WP.lreg; refine nM rfl rfl ?_; refine ALK.n OpN.cm rfl ?_; refine ALK.nil ?_; try show WP _ _ _ _ _ _)
  ((repeat apply WP.seq); refine WP.cond rfl (fun h => ?_) (fun h => ?_))
  · simp at h
  (refine WP.skip ?_; show WP _ _ _ _ _ _)
  clear h
  ((repeat apply WP.seq); apply WP.lreg; refine nM rfl rfl ?_; refine ALK.n OpN.ln rfl ?_; refine ALK.n OpN.cm rfl ?_; refine ALK.nil ?_; try show WP _ _ _ _ _ _)
  ((repeat apply WP.seq); refine WP.cond rfl (fun h => ?_) (fun h => ?_))
  · have hr : playE p st picks = 2 := by unfold playE; rw [if_pos h0, if_pos (by simp at h; omega)]
    obtain ⟨q1, q2⟩ := play_no (by omega) hr
    rw [q1, q2, hr]
    ((repeat apply WP.seq); apply WP.lreg; (first | refine ALK.n (opn_build rfl rfl rfl rfl Parts.nil) rfl ?_ | refine ALK.n (opn_buildA rfl rfl rfl rfl rfl Parts.nil) rfl ?_); (first | refine ALK.e (ope_store rfl (eB rfl) (eB rfl) Cs.a rfl rfl rfl) rfl rfl ?_ | refine ALK.e (ope_storeRow rfl rfl (eB rfl) (eB rfl) (oc_val rfl) rfl rfl (by assumption)) rfl rfl ?_); refine nA rfl rfl ?_; refine nA rfl rfl ?_; refine ALK.nil ?_; try show WP _ _ _ _ _ _)
    ((repeat apply WP.seq); refine WP.ret ?_; first | exact RetOk.one Try.results27 ResV.a | exact RetOk.tup Try.results27 rfl ResVs.a)
  (refine WP.skip ?_; show WP _ _ _ _ _ _)
  have h200 : picks.length ≤ 200 := by simp at h; omega
  have hr : playE p st picks = 0 := by unfold playE; rw [if_pos h0, if_neg (by omega)]
  have hrS : playS p st picks = (onF p picks (beginS p st) 0).1 := by unfold playS; rw [if_pos hr]
  have hrN : playN p st picks = ((onF p picks (beginS p st) 0).2 : Int) := by unfold playN; rw [if_pos hr]
  clear h
  rw [hrS, hrN, hr]
  have hle := onF_le (p := p) (picks := picks) (s := beginS p st) (n := 0)
  ((repeat apply WP.seq); apply WP.lreg; (first | refine ALK.n (opn_load rfl (eB rfl) rfl) rfl ?_ | refine ALK.r OpR.ld rfl ?_); refine nM rfl rfl ?_; refine ALK.e (ope_callEH [50, 1, 2, 3, 4, 5, 6, 7, 8, 9, 10, 11, 12, 13, 14, 15, 16, 17, 18, 19, 20, 21, 22, 23, 24, 25, 26, 27, 28, 29, 30, 31, 32, 33, 34, 35, 36, 37, 38, 39, 40, 41, 42, 43, 44, 45, 46, 47, 48, 49] (turnH 50 51 52 68 84 (onF p picks (beginS p st) 0).1 ++ [(0, .blk 29 [.im (IV.val (.slice none 0 0)), .im (IV.val (.slice none 0 0)), .im (IV.val (.slice none 0 0)), .im (IV.val (.slice none 0 0))])]) (.im (IV.int ((onF p picks (beginS p st) 0).2 : Int))) 100 (On_new p (beginS p st) picks vb hB hpk h200) EvsS.a HIn.a rfl (by kernel_rfl) rfl rfl (by kernel_rfl) (by kernel_rfl) (by kernel_rfl)) rfl rfl ?_; refine nA rfl rfl ?_; refine ALK.nil ?_; try show WP _ _ _ _ _ _)
  generalize (onF p picks (beginS p st) 0).1 = s'
  generalize (onF p picks (beginS p st) 0).2 = n' at hle ⊢
  refine WP.shift (Shift.sub (σ' := [(11, .im (IV.int n')), (9, .off 1 0), (6, .off 0 0)]) (H' := (0, .blk 29 [.im (IV.val (.slice none 0 0)), .im (IV.val (.slice none 0 0)), .im (IV.val (.slice none 0 0)), .im (IV.val (.slice none 0 0))]) :: turnH 1 2 3 19 35 s') (fr' := 51) ([(0, 0), (1, 50), (2, 51)] ++ rnN 3 52 ++ rnN 19 68 ++ rnN 35 84) rfl SubE.a (SubH.cons rfl rfl (ObLe.blk SLes.a) (SubH.cons rfl rfl (ObLe.blk SLes.a) (SubH.cons rfl rfl (ObLe.row rfl) (SubH.cons rfl rfl (ObLe.nest rfl) (SubH.cons rfl rfl (ObLe.nest rfl) (SubH.cons rfl rfl (ObLe.nest rfl) SubH.nil))))))) ?_
  refine WP.shift (Shift.frzIn 1 0 rfl rfl rfl rfl) ?_
  refine WP.shift (Shift.frzNestIn 1 1 rfl rfl rfl rfl) ?_
  refine WP.shift (Shift.frzNestIn 1 2 rfl rfl rfl rfl) ?_
  refine WP.shift (Shift.frzNestIn 1 3 rfl rfl rfl rfl) ?_
  ((repeat apply WP.seq); apply WP.lreg; (first | refine ALK.n (opn_load rfl (eB rfl) rfl) rfl ?_ | refine ALK.r OpR.ld rfl ?_); refine nM rfl rfl ?_; (first | refine ALK.e (ope_store rfl (eB rfl) (eB rfl) Cs.a rfl rfl rfl) rfl rfl ?_ | refine ALK.e (ope_storeRow rfl rfl (eB rfl) (eB rfl) (oc_val rfl) rfl rfl (by assumption)) rfl rfl ?_); refine nA rfl rfl ?_; refine nA rfl rfl ?_; refine ALK.nil ?_; try show WP _ _ _ _ _ _)
  ((repeat apply WP.seq); refine WP.ret ?_; first | exact RetOk.one Try.results27 ResV.a | exact RetOk.tup Try.results27 rfl ResVs.a)
set_option maxRecDepth 100000 in
set_option maxHeartbeats 4000000 in
theorem Play_err (p : Plan) (st picks : List Int) (h0 : ¬ beginE p st = 0) (hB : TxsB p.txns) (hpk : ∀ x ∈ picks, I64 x) : Fn (Cfg.mk Try.prog (ttAt ttl) ttl_ok.ok mixd) 27 [planV p, intsV st, intsV picks] (IV.tup [stV (playS p st picks), IV.int (playN p st picks), IV.int (playE p st picks)]) := by
  have hr : playE p st picks = beginE p st := by unfold playE; rw [if_neg h0]
  obtain ⟨q1, q2⟩ := play_no h0 hr
  rw [q1, q2, hr]
  refine Fn.of_wp _ Try.func27 rfl (by kernel_rfl) Try.ntmps27 rfl ?_
  intro F hD hG
  ((repeat apply WP.seq); apply WP.lreg; refine ALK.n (opn_box (eB rfl) Cs.a rfl) rfl ?_; refine ALK.a (opa_alloc rfl rfl) rfl ?_; refine nA rfl rfl ?_; refine nA rfl rfl ?_; refine ALK.nil ?_; try show WP _ _ _ _ _ _)
  ((repeat apply WP.seq); apply WP.lreg; (first | refine ALK.n (opn_load rfl (eB rfl) rfl) rfl ?_ | refine ALK.r OpR.ld rfl ?_); refine nM rfl rfl ?_; refine ALK.n (opn_call (Begin_err p st hB h0) (Evs.cons Ev.a (Evs.cons Ev.a Evs.nil))) rfl ?_; refine nM rfl rfl ?_; refine nX rfl rfl rfl ?_; refine nX rfl rfl rfl ?_; refine ALK.a (opa_alloc rfl rfl) rfl ?_; (first | refine ALK.e (ope_store rfl (eB rfl) (eB rfl) Cs.a rfl rfl rfl) rfl rfl ?_ | refine ALK.e (ope_storeRow rfl rfl (eB rfl) (eB rfl) (oc_val rfl) rfl rfl (by assumption)) rfl rfl ?_); refine nA rfl rfl ?_; refine ALK.nil ?_; try show WP _ _ _ _ _ _)
  ((repeat apply WP.seq); apply WP.lreg; refine nM rfl rfl ?_; refine ALK.n OpN.cm rfl ?_; refine ALK.nil ?_; try show WP _ _ _ _ _ _)
  ((repeat apply WP.seq); refine WP.cond rfl (fun h => ?_) (fun h => ?_))
  · ((repeat apply WP.seq); apply WP.lreg; (first | refine ALK.n (opn_build rfl rfl rfl rfl Parts.nil) rfl ?_ | refine ALK.n (opn_buildA rfl rfl rfl rfl rfl Parts.nil) rfl ?_); refine nM rfl rfl ?_; (first | refine ALK.e (ope_store rfl (eB rfl) (eB rfl) Cs.a rfl rfl rfl) rfl rfl ?_ | refine ALK.e (ope_storeRow rfl rfl (eB rfl) (eB rfl) (oc_val rfl) rfl rfl (by assumption)) rfl rfl ?_); refine nA rfl rfl ?_; refine nA rfl rfl ?_; refine ALK.nil ?_; try show WP _ _ _ _ _ _)
    ((repeat apply WP.seq); refine WP.ret ?_; first | exact RetOk.one Try.results27 ResV.a | exact RetOk.tup Try.results27 rfl ResVs.a)
  · exact absurd (by simpa using h) h0
theorem Play_fn (p : Plan) (st picks : List Int) (hB : TxsB p.txns) (hpk : ∀ x ∈ picks, I64 x) : Fn (Cfg.mk Try.prog (ttAt ttl) ttl_ok.ok mixd) 27 [planV p, intsV st, intsV picks] (IV.tup [stV (playS p st picks), IV.int (playN p st picks), IV.int (playE p st picks)]) := by
  by_cases h0 : beginE p st = 0
  · exact Play_ok p st picks h0 hB hpk
  · exact Play_err p st picks h0 hB hpk

end Go.Proofs.Ytjgmbgfcffnanac
