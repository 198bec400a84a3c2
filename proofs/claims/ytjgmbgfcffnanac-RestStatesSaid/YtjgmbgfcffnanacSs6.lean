/- Package steps: Begin and Do. -/
import Derived.Test.YtjgmbgfcffnanacSs5
namespace Go.Proofs.Ytjgmbgfcffnanac
open Go.RowKit

theorem begin_vals {p : Plan} {n : Nat} (h : n < nT p) : (p.txns.take (n + 1)).map (fun t => List.replicate t.reads.length (0 : Int)) = (p.txns.take n).map (fun t => List.replicate t.reads.length (0 : Int)) ++ [List.replicate (txN p n).reads.length 0] := by
  have : p.txns[n]? = some (txN p n) := getD_of_lt _ h
  rw [take_snoc this, List.map_append]; rfl
set_option maxRecDepth 100000 in
set_option maxHeartbeats 2000000 in
theorem Begin_new (p : Plan) (st : List Int) (hB : TxsB p.txns) (h0 : beginE p st = 0) :
    FnE (Cfg.mk Try.prog (ttAt ttl) ttl_ok.ok mixd) 25 0 [.im (planV p), .im (intsV st)] [] (.tup [ownSV (beginS p st) 0 1 17 33, .im (IV.int 0)]) (ownH (beginS p st) 0 1 17 33) 49 [] := by
  have v := Valid.begin h0
  have hst : st.length = 8 := v.store
  have hp := v.plan
  obtain ⟨hm, hm1, hm4, hn8, hall⟩ := plan_m hp
  have hnT : nT p = p.txns.length := rfl
  refine FnE.of_wp _ [] Try.func25 rfl (by kernel_rfl) Try.ntmps25 rfl rfl rfl rfl rfl rfl rfl rfl rfl ?_
  intro F vs hD hvs
  obtain ⟨v0, v1, rfl⟩ := len2 hvs
  show WP _ _ _ _ _ ⟨[(0, .im (planV p)), (1, .im (intsV st))], [], 0⟩
  ((repeat apply WP.seq); apply WP.lreg; refine ALK.n (opn_box (eB rfl) Cs.a rfl) rfl ?_; refine ALK.a (opa_alloc rfl rfl) rfl ?_; refine nA rfl rfl ?_; refine ALK.nil ?_; try show WP _ _ _ _ _ _)
  ((repeat apply WP.seq); apply WP.lreg; (first | refine ALK.n (opn_load rfl (eB rfl) rfl) rfl ?_ | refine ALK.r OpR.ld rfl ?_); refine ALK.n (opn_call (place_Check_fn _ (by assumption)) (Evs.cons Ev.a Evs.nil)) rfl ?_; refine nA rfl rfl ?_; refine ALK.nil ?_; try show WP _ _ _ _ _ _)
  ((repeat apply WP.seq); apply WP.lreg; refine nM rfl rfl ?_; refine ALK.n OpN.cm rfl ?_; refine ALK.nil ?_; try show WP _ _ _ _ _ _)
  ((repeat apply WP.seq); refine WP.cond rfl (fun h => ?_) (fun h => ?_))
  · simp [hp] at h
  (refine WP.skip ?_; show WP _ _ _ _ _ _)
  ((repeat apply WP.seq); apply WP.lreg; refine nM rfl rfl ?_; refine ALK.n (opn_call (store_Check_fn st) (Evs.cons Ev.a Evs.nil)) rfl ?_; refine nA rfl rfl ?_; refine ALK.nil ?_; try show WP _ _ _ _ _ _)
  rw [if_pos hst]
  ((repeat apply WP.seq); apply WP.lreg; refine nM rfl rfl ?_; refine ALK.n OpN.cm rfl ?_; refine ALK.nil ?_; try show WP _ _ _ _ _ _)
  ((repeat apply WP.seq); refine WP.cond rfl (fun h => ?_) (fun h => ?_))
  · simp at h
  (refine WP.skip ?_; show WP _ _ _ _ _ _)
  ((repeat apply WP.seq); apply WP.lreg; refine nM rfl rfl ?_; refine ALK.a (opa_callRow (Clone_row st (by omega)) (Evs.cons Ev.a Evs.nil)) rfl ?_; (first | refine ALK.n (opn_build rfl rfl rfl rfl (Pc rfl (eB rfl) Cs.a rfl rfl Parts.nil)) rfl ?_ | refine ALK.n (opn_buildA rfl rfl rfl rfl rfl (Pc rfl (eB rfl) Cs.a rfl rfl Parts.nil)) rfl ?_); refine ALK.a (opa_alloc rfl rfl) rfl ?_; (first | refine ALK.e (ope_store rfl (eB rfl) (eB rfl) Cs.a rfl rfl rfl) rfl rfl ?_ | refine ALK.e (ope_storeRow rfl rfl (eB rfl) (eB rfl) (oc_val rfl) rfl rfl (by assumption)) rfl rfl ?_); refine ALK.nil ?_; try show WP _ _ _ _ _ _)
  refine WP.shift (Shift.nest0In 2 1 50 4 1 cB (fun _ => rfl) rfl rfl rfl) ?_
  refine WP.shift (Shift.nest0In 2 2 50 4 1 cB (fun _ => rfl) rfl rfl rfl) ?_
  refine WP.shift (Shift.nest0In 2 3 25 3 1 cI (fun _ => rfl) rfl rfl rfl) ?_
  ((repeat apply WP.seq); apply WP.lreg; (first | refine ALK.n (opn_field (o := 1) rfl (eB rfl)) rfl ?_ | refine ALK.n (opn_fieldOff (o := 1) rfl (eB rfl)) rfl ?_); (first | refine ALK.n (opn_load rfl (eB rfl) rfl) rfl ?_ | refine ALK.r OpR.ld rfl ?_); refine ALK.n OpN.ln rfl ?_; refine nM rfl rfl ?_; refine ALK.nil ?_; try show WP _ _ _ _ _ _)
  ((repeat apply WP.seq); apply WP.block)
  refine WP.loop (fun n : Nat => ⟨[(29, .im (IV.int n)), (27, .im (txsV p.txns)), (28, .im (IV.int p.txns.length)), (2, .im (IV.ptr (cP p))), (4, .off 0 0), (8, .off 2 0)], [(0, .blk 29 [.im (IV.val (.slice none 0 0)), .im (IV.val (.slice none 0 0)), .im (IV.val (.slice none 0 0)), .im (IV.val (.slice none 0 0))]), (1, rowI st), (2, .blk 29 [.row 1 st.length, .row 3 n, .row 19 n, .row 35 n]), (3, nestB (List.replicate n (List.replicate (mS p) false))), (19, nestB (List.replicate n (List.replicate (mS p) false))), (35, nestI ((p.txns.take n).map fun t => List.replicate t.reads.length 0))], 51⟩) (fun n => n ≤ nT p) (fun n => nT p - n) 0 (Nat.zero_le _)
    (Shift.sub ([(0, 0), (1, 1), (2, 2)] ++ rnN 3 3 ++ rnN 19 19 ++ rnN 35 35) rfl SubE.a (SubH.cons rfl rfl (ObLe.blk SLes.a) (SubH.cons rfl rfl (ObLe.row rfl) (SubH.cons rfl rfl (ObLe.blk SLes.a) (SubH.cons rfl rfl (ObLe.nest rfl) (SubH.cons rfl rfl (ObLe.nest rfl) (SubH.cons rfl rfl (ObLe.nest rfl) SubH.nil))))))) ?_
  rintro n hn
  ((repeat apply WP.seq); apply WP.lreg; refine ALK.n OpN.cm rfl ?_; refine ALK.nil ?_; try show WP _ _ _ _ _ _)
  ((repeat apply WP.seq); refine WP.cond rfl (fun h => ?_) (fun h => ?_))
  · (refine WP.skip ?_; show WP _ _ _ _ _ _)
    have hlt : n < nT p := by simp at h; omega
    obtain ⟨ht, hok⟩ := hall n hlt
    obtain ⟨hz1, hz2, hz3, hz4⟩ := (right_parts hok).1
    have hvl : ((p.txns.take n).map fun t => List.replicate t.reads.length (0 : Int)).length = n := by rw [List.length_map, List.length_take]; omega
    ((repeat apply WP.seq); apply WP.block)
    ((repeat apply WP.seq); apply WP.lreg; refine ALK.n OpN.ix rfl ?_; (first | refine ALK.n (opn_load rfl (eB rfl) rfl) rfl ?_ | refine ALK.r OpR.ld rfl ?_); refine ALK.a (opa_alloc rfl rfl) rfl ?_; (first | refine ALK.e (ope_store rfl (eB rfl) (eB rfl) Cs.a rfl rfl rfl) rfl rfl ?_ | refine ALK.e (ope_storeRow rfl rfl (eB rfl) (eB rfl) (oc_val rfl) rfl rfl (by assumption)) rfl rfl ?_); refine ALK.nil ?_; try show WP _ _ _ _ _ _)
    refine WP.shift (Shift.frzBlk 10 rfl rfl rfl) ?_
    ((repeat apply WP.seq); apply WP.ldraw; (first | refine ALK.n (opn_field (o := 1) rfl (eB rfl)) rfl ?_ | refine ALK.n (opn_fieldOff (o := 1) rfl (eB rfl)) rfl ?_); (first | refine ALK.n (opn_load rfl (eB rfl) rfl) rfl ?_ | refine ALK.r OpR.ld rfl ?_); (first | refine ALK.n (opn_field (o := 0) rfl (eB rfl)) rfl ?_ | refine ALK.n (opn_fieldOff (o := 0) rfl (eB rfl)) rfl ?_); (first | refine ALK.n (opn_load rfl (eB rfl) rfl) rfl ?_ | refine ALK.r OpR.ld rfl ?_); refine ALK.a (opa_make (n := mS p) (b := 1) (enc := cB) false rfl rfl (fun _ => rfl) rfl rfl rfl (Ev.of (eB rfl) (ImOf.im (ILe.int hm))) (Ev.of (eB rfl) (ImOf.im (ILe.int hm))) rfl (by omega) (by omega)) rfl ?_; refine ALK.n (opn_slitS rfl rfl rfl rfl rfl rfl (Pc rfl (eB rfl) Cs.a rfl rfl Parts.nil)) rfl ?_; refine ALK.e (ope_appendNest rfl rfl rfl rfl (eB rfl) (eB rfl) rfl rfl rfl (by rw [List.length_replicate]; omega)) rfl rfl ?_; (first | refine ALK.n (opn_field (o := 1) rfl (eB rfl)) rfl ?_ | refine ALK.n (opn_fieldOff (o := 1) rfl (eB rfl)) rfl ?_); (first | refine ALK.e (ope_store rfl (eB rfl) (eB rfl) Cs.a rfl rfl rfl) rfl rfl ?_ | refine ALK.e (ope_storeRow rfl rfl (eB rfl) (eB rfl) (oc_val rfl) rfl rfl (by assumption)) rfl rfl ?_); refine ALK.nilD (by kernel_rfl) ?_; try show WP _ _ _ _ _ _)
    ((repeat apply WP.seq); apply WP.ldraw; (first | refine ALK.n (opn_field (o := 2) rfl (eB rfl)) rfl ?_ | refine ALK.n (opn_fieldOff (o := 2) rfl (eB rfl)) rfl ?_); (first | refine ALK.n (opn_load rfl (eB rfl) rfl) rfl ?_ | refine ALK.r OpR.ld rfl ?_); (first | refine ALK.n (opn_field (o := 0) rfl (eB rfl)) rfl ?_ | refine ALK.n (opn_fieldOff (o := 0) rfl (eB rfl)) rfl ?_); (first | refine ALK.n (opn_load rfl (eB rfl) rfl) rfl ?_ | refine ALK.r OpR.ld rfl ?_); refine ALK.a (opa_make (n := mS p) (b := 1) (enc := cB) false rfl rfl (fun _ => rfl) rfl rfl rfl (Ev.of (eB rfl) (ImOf.im (ILe.int hm))) (Ev.of (eB rfl) (ImOf.im (ILe.int hm))) rfl (by omega) (by omega)) rfl ?_; refine ALK.n (opn_slitS rfl rfl rfl rfl rfl rfl (Pc rfl (eB rfl) Cs.a rfl rfl Parts.nil)) rfl ?_; refine ALK.e (ope_appendNest rfl rfl rfl rfl (eB rfl) (eB rfl) rfl rfl rfl (by rw [List.length_replicate]; omega)) rfl rfl ?_; (first | refine ALK.n (opn_field (o := 2) rfl (eB rfl)) rfl ?_ | refine ALK.n (opn_fieldOff (o := 2) rfl (eB rfl)) rfl ?_); (first | refine ALK.e (ope_store rfl (eB rfl) (eB rfl) Cs.a rfl rfl rfl) rfl rfl ?_ | refine ALK.e (ope_storeRow rfl rfl (eB rfl) (eB rfl) (oc_val rfl) rfl rfl (by assumption)) rfl rfl ?_); refine ALK.nilD (by kernel_rfl) ?_; try show WP _ _ _ _ _ _)
    ((repeat apply WP.seq); apply WP.ldraw; (first | refine ALK.n (opn_field (o := 3) rfl (eB rfl)) rfl ?_ | refine ALK.n (opn_fieldOff (o := 3) rfl (eB rfl)) rfl ?_); (first | refine ALK.n (opn_load rfl (eB rfl) rfl) rfl ?_ | refine ALK.r OpR.ld rfl ?_); (first | refine ALK.n (opn_field (o := 0) rfl (eB rfl)) rfl ?_ | refine ALK.n (opn_fieldOff (o := 0) rfl (eB rfl)) rfl ?_); (first | refine ALK.n (opn_load rfl (eB rfl) rfl) rfl ?_ | refine ALK.r OpR.ld rfl ?_); refine ALK.n OpN.ln rfl ?_; refine ALK.a (opa_make (n := (txN p n).reads.length) (b := 8) (enc := cI) 0 rfl rfl (fun _ => rfl) rfl rfl rfl (eB rfl) (eB rfl) rfl (by omega) (by omega)) rfl ?_; refine ALK.n (opn_slitS rfl rfl rfl rfl rfl rfl (Pc rfl (eB rfl) Cs.a rfl rfl Parts.nil)) rfl ?_; refine ALK.e (ope_appendNest rfl rfl rfl rfl (eB rfl) (eB rfl) rfl rfl rfl (by rw [hvl]; omega)) rfl rfl ?_; (first | refine ALK.n (opn_field (o := 3) rfl (eB rfl)) rfl ?_ | refine ALK.n (opn_fieldOff (o := 3) rfl (eB rfl)) rfl ?_); (first | refine ALK.e (ope_store rfl (eB rfl) (eB rfl) Cs.a rfl rfl rfl) rfl rfl ?_ | refine ALK.e (ope_storeRow rfl rfl (eB rfl) (eB rfl) (oc_val rfl) rfl rfl (by assumption)) rfl rfl ?_); refine ALK.nilD (by kernel_rfl) ?_; try show WP _ _ _ _ _ _)
    ((repeat apply WP.seq); apply WP.lreg; refine ALK.n OpN.ar rfl ?_; refine nM rfl rfl ?_; refine ALK.nil ?_; try show WP _ _ _ _ _ _)
    show ∃ _, _ ∧ _ ∧ _
    exact ⟨n + 1, by omega, by omega, Shift.sub ([(0, 0), (1, 1), (2, 2)] ++ rnN 3 53 ++ rnN 19 70 ++ rnN 35 87) rfl SubE.a (SubH.cons rfl rfl (ObLe.blk SLes.a) (SubH.cons rfl rfl (ObLe.row rfl) (SubH.cons rfl rfl (ObLe.blk (SLes.cons SLe.a (SLes.cons (SLe.row rfl (by rw [List.length_replicate])) (SLes.cons (SLe.row rfl (by rw [List.length_replicate])) (SLes.cons (SLe.row rfl (by rw [hvl])) SLes.nil))))) (SubH.cons rfl rfl (ObLe.nest (List.replicate_succ' ..).symm) (SubH.cons rfl rfl (ObLe.nest (List.replicate_succ' ..).symm) (SubH.cons rfl rfl (ObLe.nest (begin_vals hlt).symm) SubH.nil))))))⟩
  · ((repeat apply WP.seq); refine WP.exit ?_; show WP _ _ _ _ _ _)
    have hn2 : n = nT p := by simp at h; omega
    subst hn2
    ((repeat apply WP.seq); apply WP.lreg; (first | refine ALK.n (opn_load rfl (eB rfl) rfl) rfl ?_ | refine ALK.r OpR.ld rfl ?_); (first | refine ALK.e (ope_store rfl (eB rfl) (eB rfl) Cs.a rfl rfl rfl) rfl rfl ?_ | refine ALK.e (ope_storeRow rfl rfl (eB rfl) (eB rfl) (oc_val rfl) rfl rfl (by assumption)) rfl rfl ?_); refine nA rfl rfl ?_; refine ALK.nil ?_; try show WP _ _ _ _ _ _)
    refine WP.shift (Shift.sub (σ' := [(4, .off 49 0), (5, .im (IV.int 0))]) (H' := (49, .blk 29 [.row 0 (beginS p st).store.length, .row 1 (beginS p st).rd.length, .row 17 (beginS p st).wr.length, .row 33 (beginS p st).vals.length]) :: ownH (beginS p st) 0 1 17 33) (fr' := 50) ([(0, 1), (49, 0)] ++ rnN 1 3 ++ rnN 17 19 ++ rnN 33 35) rfl SubE.a (SubH.cons rfl rfl (ObLe.blk (SLes.cons SLe.a (SLes.cons (SLe.row rfl v.rdl.symm) (SLes.cons (SLe.row rfl v.wrl.symm) (SLes.cons (SLe.row rfl v.vall.symm) SLes.nil))))) (SubH.cons rfl rfl (ObLe.row rfl) (SubH.cons rfl rfl (ObLe.nest rfl) (SubH.cons rfl rfl (ObLe.nest rfl) (SubH.cons rfl rfl (ObLe.nest (by rw [hnT, List.take_length]; rfl)) SubH.nil)))))) ?_
    refine WP.ret ?_
    exact RetOkE.svs Try.results25 rfl (.cons (ResSv.cell rfl rfl rfl rfl) (.cons (ResSv.tmp rfl) .nil)) HSb.a Kept.a
set_option maxRecDepth 100000 in
theorem Begin_err (p : Plan) (st : List Int) (hB : TxsB p.txns) (h0 : ¬ beginE p st = 0) : Fn (Cfg.mk Try.prog (ttAt ttl) ttl_ok.ok mixd) 25 [planV p, intsV st] (IV.tup [stV st0, IV.int (beginE p st)]) := by
  refine Fn.of_wp _ Try.func25 rfl (by kernel_rfl) Try.ntmps25 rfl ?_
  intro F hD hG
  ((repeat apply WP.seq); apply WP.lreg; refine ALK.n (opn_box (eB rfl) Cs.a rfl) rfl ?_; refine ALK.a (opa_alloc rfl rfl) rfl ?_; refine nA rfl rfl ?_; refine ALK.nil ?_; try show WP _ _ _ _ _ _)
  ((repeat apply WP.seq); apply WP.lreg; (first | refine ALK.n (opn_load rfl (eB rfl) rfl) rfl ?_ | refine ALK.r OpR.ld rfl ?_); refine ALK.n (opn_call (place_Check_fn _ (by assumption)) (Evs.cons Ev.a Evs.nil)) rfl ?_; refine nA rfl rfl ?_; refine ALK.nil ?_; try show WP _ _ _ _ _ _)
  ((repeat apply WP.seq); apply WP.lreg; refine nM rfl rfl ?_; refine ALK.n OpN.cm rfl ?_; refine ALK.nil ?_; try show WP _ _ _ _ _ _)
  ((repeat apply WP.seq); refine WP.cond rfl (fun h => ?_) (fun h => ?_))
  · have hr : beginE p st = checkPlan p := by unfold beginE; rw [if_neg (by simpa using h)]
    rw [hr]
    ((repeat apply WP.seq); apply WP.lreg; (first | refine ALK.n (opn_build rfl rfl rfl rfl Parts.nil) rfl ?_ | refine ALK.n (opn_buildA rfl rfl rfl rfl rfl Parts.nil) rfl ?_); refine nM rfl rfl ?_; (first | refine ALK.e (ope_store rfl (eB rfl) (eB rfl) Cs.a rfl rfl rfl) rfl rfl ?_ | refine ALK.e (ope_storeRow rfl rfl (eB rfl) (eB rfl) (oc_val rfl) rfl rfl (by assumption)) rfl rfl ?_); refine nA rfl rfl ?_; refine ALK.nil ?_; try show WP _ _ _ _ _ _)
    ((repeat apply WP.seq); refine WP.ret ?_; first | exact RetOk.one Try.results25 ResV.a | exact RetOk.tup Try.results25 rfl ResVs.a)
  (refine WP.skip ?_; show WP _ _ _ _ _ _)
  have hp : checkPlan p = 0 := by simpa using h
  have hr : beginE p st = if st.length = 8 then 0 else 1 := by unfold beginE; rw [if_pos hp]
  ((repeat apply WP.seq); apply WP.lreg; refine nM rfl rfl ?_; refine ALK.n (opn_call (store_Check_fn st) (Evs.cons Ev.a Evs.nil)) rfl ?_; refine nA rfl rfl ?_; refine ALK.nil ?_; try show WP _ _ _ _ _ _)
  ((repeat apply WP.seq); apply WP.lreg; refine nM rfl rfl ?_; refine ALK.n OpN.cm rfl ?_; refine ALK.nil ?_; try show WP _ _ _ _ _ _)
  rw [← hr]
  ((repeat apply WP.seq); refine WP.cond rfl (fun h => ?_) (fun h => ?_))
  · ((repeat apply WP.seq); apply WP.lreg; (first | refine ALK.n (opn_build rfl rfl rfl rfl Parts.nil) rfl ?_ | refine ALK.n (opn_buildA rfl rfl rfl rfl rfl Parts.nil) rfl ?_); refine nM rfl rfl ?_; (first | refine ALK.e (ope_store rfl (eB rfl) (eB rfl) Cs.a rfl rfl rfl) rfl rfl ?_ | refine ALK.e (ope_storeRow rfl rfl (eB rfl) (eB rfl) (oc_val rfl) rfl rfl (by assumption)) rfl rfl ?_); refine nA rfl rfl ?_; refine ALK.nil ?_; try show WP _ _ _ _ _ _)
    ((repeat apply WP.seq); refine WP.ret ?_; first | exact RetOk.one Try.results25 ResV.a | exact RetOk.tup Try.results25 rfl ResVs.a)
  · exact absurd (by simpa using h) h0
theorem lnd_st {s : StT} {a b c d : Nat} {H : List Ent} (h1 : hget H a = some (rowI s.store)) (h2 : hget H b = some (nestB s.rd)) (h3 : hget H c = some (nestB s.wr)) (h4 : hget H d = some (nestI s.vals)) : Lnd H (ownSV s a b c d) (stV s) := .agg (.cons (.row h1) (.cons (.nest h2) (.cons (.nest h3) (.cons (.nest h4) .nil))))
theorem Begin_fn (p : Plan) (st : List Int) (hB : TxsB p.txns) : Fn (Cfg.mk Try.prog (ttAt ttl) ttl_ok.ok mixd) 25 [planV p, intsV st] (IV.tup [stV (begS p st), IV.int (beginE p st)]) := by
  by_cases h : beginE p st = 0
  · have hr : begS p st = beginS p st := by unfold begS; rw [if_pos h]
    rw [h, hr]
    exact Fn.of_new (args := [planV p, intsV st]) (Begin_new p st hB h) (.tup (.cons (lnd_st rfl rfl rfl rfl) (.cons .im .nil)))
  · have hr : begS p st = st0 := by unfold begS; rw [if_neg h]
    rw [hr]
    exact Begin_err p st hB h
theorem Valid.shp {p : Plan} {s : StT} (v : Valid p s) : Shp p s := ⟨v.plan, shape_iff.2 ⟨v.store, v.rdl, v.wrl, v.vall, fun n hn => ⟨v.rdr n hn, v.wrr n hn, v.valr n hn⟩⟩⟩
theorem len_le {l : List (List Int)} {N : Nat} (h : ∀ n, n < l.length → (l.getD n []).length ≤ N) : ∀ x ∈ l, x.length ≤ N := fun x hx => by
  obtain ⟨n, hn⟩ := List.mem_iff_getElem?.1 hx
  have := h n (List.getElem?_eq_some_iff.1 hn).1
  rwa [getD_at hn] at this
theorem len_leB {l : List (List Bool)} {N : Nat} (h : ∀ n, n < l.length → (l.getD n []).length ≤ N) : ∀ x ∈ l, x.length ≤ N := fun x hx => by
  obtain ⟨n, hn⟩ := List.mem_iff_getElem?.1 hx
  have := h n (List.getElem?_eq_some_iff.1 hn).1
  rwa [getD_at hn] at this
theorem Valid.reads4 {p : Plan} (hp : checkPlan p = 0) {n : Nat} (hn : n < nT p) : (txN p n).reads.length ≤ 4 := ((right_parts ((plan_m hp).2.2.2.2 n hn).2).1).1
end Go.Proofs.Ytjgmbgfcffnanac
