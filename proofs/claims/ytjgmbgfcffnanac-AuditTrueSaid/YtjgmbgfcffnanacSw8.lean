/- The law AuditTrue. -/
import Derived.Test.YtjgmbgfcffnanacOn
import Derived.Test.YtjgmbgfcffnanacRs
import Derived.Test.YtjgmbgfcffnanacNt
import Derived.Test.YtjgmbgfcffnanacAu4
namespace Go.Proofs.Ytjgmbgfcffnanac
open Go.RowKit

theorem wrap_ne (x : Int) : wrap64 (x + 1) ≠ x := by unfold wrap64; omega
theorem set_ne {α : Type} {l : List α} {i : Nat} {x y : α} (h : l[i]? = some x) (hne : y ≠ x) : l ≠ l.set i y := fun e => by
  have h2 : (l.set i y)[i]? = some x := by rw [← e]; exact h
  rw [List.getElem?_set_self (List.getElem?_eq_some_iff.1 h).1] at h2
  exact hne (Option.some.inj h2)
theorem take_set {α : Type} (l : List α) (i : Nat) (y : α) : l.take i = (l.set i y).take i := by
  refine List.ext_getElem? fun k => ?_
  rw [List.getElem?_take, List.getElem?_take]
  split
  · rw [List.getElem?_set_ne (by omega)]
  · rfl
theorem aud_true {s : List Int} {l : List Txn} (h8 : s.length = 8) (hc : checkTxns l = 0) : audE s l (serS s l) (serR s l) = 0 ∧ audN s l (serS s l) (serR s l) = -1 := by
  have hE : audE s l (serS s l) (serR s l) = 0 := by
    unfold audE serE
    rw [if_pos h8, hc, if_pos rfl, if_pos ⟨by rw [serS_len]; exact h8, serR_len _ _⟩]
  refine ⟨hE, ?_⟩
  unfold audN
  rw [if_pos hE, diffAt_self]
  exact if_pos rfl
theorem aud_store {s st : List Int} {l : List Txn} (h8 : s.length = 8) (hc : checkTxns l = 0) (hl : st.length = 8) (hne : serS s l ≠ st) : audE s l st (serR s l) = 0 ∧ audN s l st (serR s l) = l.length := by
  have hE : audE s l st (serR s l) = 0 := by
    unfold audE serE
    rw [if_pos h8, hc, if_pos rfl, if_pos ⟨hl, serR_len _ _⟩]
  refine ⟨hE, ?_⟩
  unfold audN
  rw [if_pos hE, diffAt_self]
  exact if_neg hne
theorem aud_res {s : List Int} {l : List Txn} {k : Nat} {x y : Res} (h8 : s.length = 8) (hc : checkTxns l = 0) (hk : (serR s l)[k]? = some x) (hne : x ≠ y) : audE s l (serS s l) ((serR s l).set k y) = 0 ∧ audN s l (serS s l) ((serR s l).set k y) = k := by
  have hE : audE s l (serS s l) ((serR s l).set k y) = 0 := by
    unfold audE serE
    rw [if_pos h8, hc, if_pos rfl, if_pos ⟨by rw [serS_len]; exact h8, by rw [List.length_set]; exact serR_len _ _⟩]
  refine ⟨hE, ?_⟩
  have hd : diffAt (serR s l) ((serR s l).set k y) = some k := diffAt_at (take_set _ _ _) hk (by rw [List.getElem?_set_self (List.getElem?_eq_some_iff.1 hk).1]) hne
  unfold audN
  rw [if_pos hE, hd]
set_option maxRecDepth 100000 in
set_option maxHeartbeats 4000000 in
theorem AuditTrue_fn (p : Plan) (st picks : List Int) (a b : Int) (hB : TxsB p.txns) (hpk : ∀ x ∈ picks, I64 x) (ha : I64 a) (hb8 : I64 b) : Fn (Cfg.mk Try.prog (ttAt ttl) ttl_ok.ok mixd) 7 [planV p, intsV st, intsV picks, IV.int a, IV.int b] (IV.bool true) := by
  refine Fn.of_wp _ Try.func7 rfl (by kernel_rfl) Try.ntmps7 rfl ?_
  intro F hD hG
  ((repeat apply WP.seq); apply WP.lreg; refine ALK.n (opn_box (eB rfl) Cs.a rfl) rfl ?_; refine nA rfl rfl ?_; refine ALK.nil ?_; try show WP _ _ _ _ _ _)
  ((repeat apply WP.seq); apply WP.lreg; (first | refine ALK.n (opn_load rfl (eB rfl) rfl) rfl ?_ | refine ALK.r OpR.ld rfl ?_); refine nM rfl rfl ?_; refine nM rfl rfl ?_; refine ALK.n (opn_call (Play_fn p st picks hB hpk) (Evs.cons Ev.a (Evs.cons Ev.a (Evs.cons Ev.a Evs.nil)))) rfl ?_; refine nM rfl rfl ?_; refine nX rfl rfl rfl ?_; refine nX rfl rfl rfl ?_; refine nX rfl rfl rfl ?_; refine ALK.a (opa_alloc rfl rfl) rfl ?_; (first | refine ALK.e (ope_store rfl (eB rfl) (eB rfl) Cs.a rfl rfl rfl) rfl rfl ?_ | refine ALK.e (ope_storeRow rfl rfl (eB rfl) (eB rfl) (oc_val rfl) rfl rfl (by assumption)) rfl rfl ?_); refine nA rfl rfl ?_; refine nA rfl rfl ?_; refine ALK.nil ?_; try show WP _ _ _ _ _ _)
  ((repeat apply WP.seq); apply WP.lreg; (first | refine ALK.n (opn_load rfl (eB rfl) rfl) rfl ?_ | refine ALK.r OpR.ld rfl ?_); (first | refine ALK.n (opn_load rfl (eB rfl) rfl) rfl ?_ | refine ALK.r OpR.ld rfl ?_); refine ALK.n (opn_call (Results_fn p (playS p st picks) hB) (Evs.cons Ev.a (Evs.cons Ev.a Evs.nil))) rfl ?_; refine nM rfl rfl ?_; refine nX rfl rfl rfl ?_; refine nX rfl rfl rfl ?_; refine nA rfl rfl ?_; refine nA rfl rfl ?_; refine ALK.nil ?_; try show WP _ _ _ _ _ _)
  ((repeat apply WP.seq); apply WP.lreg; refine nM rfl rfl ?_; refine ALK.n OpN.cm rfl ?_; refine nM rfl rfl ?_; refine gM rfl rfl rfl rfl ?_; (first | refine ALK.g (fun hb => opn_cmp (eC rfl hb) (eB rfl) rfl) rfl rfl rfl ?_ | refine ALK.g (fun hb => opn_cmpB rfl (eC rfl hb) (eB rfl) rfl) rfl rfl rfl ?_); refine ALK.n (opn_pick_or (eB rfl) rfl rfl (fun hb2 => by first | (rw [hb2]; rfl) | (rw [hb, hb2]; rfl) | simp_all [gd])) rfl ?_; refine ALK.nil ?_; try show WP _ _ _ _ _ _)
  ((repeat apply WP.seq); refine WP.cond rfl (fun h => ?_) (fun h => ?_))
  · ((repeat apply WP.seq); apply WP.lreg; refine ALK.n (opn_call auditBegun_fn Evs.nil) rfl ?_; refine nA rfl rfl ?_; refine ALK.nil ?_; try show WP _ _ _ _ _ _)
    ((repeat apply WP.seq); refine WP.ret ?_; first | exact RetOk.one Try.results7 ResV.a | exact RetOk.tup Try.results7 rfl ResVs.a)
  (refine WP.skip ?_; show WP _ _ _ _ _ _)
  have h0 : playE p st picks = 0 ∧ resE p (playS p st picks) = 0 := by simpa using h
  obtain ⟨h0, _⟩ := h0
  clear h
  obtain ⟨r, _, e1, e2, e3⟩ := play_done h0
  have h8 : st.length = 8 := r.b0
  have hct : checkTxns p.txns = 0 := (checkPlan_zero r.v.plan).2.2
  have hnT : p.txns.length ≤ 8 := (plan_m r.v.plan).2.2.2.1
  have hrl := serR_len st p.txns
  have hsl : (serS st p.txns).length = 8 := by rw [serS_len]; exact h8
  obtain ⟨t1, t2⟩ := aud_true h8 hct
  rw [e3]
  generalize playS p st picks = s at e1 r
  obtain ⟨sst, srd, swr, svl⟩ := s
  simp only at e1
  subst e1
  refine WP.shift (Shift.sub (σ' := [(14, .im (ressV (serR st p.txns))), (11, .off 0 0), (5, .im (IV.ptr (cP p))), (1, .im (intsV st)), (3, .im (IV.int a)), (4, .im (IV.int b))]) (H' := [(0, .blk 29 [.im (intsV (serS st p.txns)), .im (bbV srd), .im (bbV swr), .im (iiV svl)])]) (fr' := 1) [(0, 0)] rfl SubE.a (SubH.cons rfl rfl (ObLe.blk SLes.a) SubH.nil)) ?_
  ((repeat apply WP.seq); apply WP.lreg; refine nM rfl rfl ?_; (first | refine ALK.n (opn_field (o := 1) rfl (eB rfl)) rfl ?_ | refine ALK.n (opn_fieldOff (o := 1) rfl (eB rfl)) rfl ?_); (first | refine ALK.n (opn_load rfl (eB rfl) rfl) rfl ?_ | refine ALK.r OpR.ld rfl ?_); (first | refine ALK.n (opn_field (o := 0) rfl (eB rfl)) rfl ?_ | refine ALK.n (opn_fieldOff (o := 0) rfl (eB rfl)) rfl ?_); (first | refine ALK.n (opn_load rfl (eB rfl) rfl) rfl ?_ | refine ALK.r OpR.ld rfl ?_); refine nM rfl rfl ?_; refine ALK.n (opn_call (Audit_fn st p.txns (serS st p.txns) (serR st p.txns) hB) (Evs.cons Ev.a (Evs.cons Ev.a (Evs.cons Ev.a (Evs.cons Ev.a Evs.nil))))) rfl ?_; refine nM rfl rfl ?_; refine nX rfl rfl rfl ?_; refine nX rfl rfl rfl ?_; refine nA rfl rfl ?_; refine nA rfl rfl ?_; refine ALK.nil ?_; try show WP _ _ _ _ _ _)
  rw [t1, t2]
  ((repeat apply WP.seq); apply WP.lreg; refine nM rfl rfl ?_; refine ALK.n OpN.cm rfl ?_; refine nM rfl rfl ?_; refine gM rfl rfl rfl rfl ?_; (first | refine ALK.g (fun hb => opn_cmp (eC rfl hb) (eB rfl) rfl) rfl rfl rfl ?_ | refine ALK.g (fun hb => opn_cmpB rfl (eC rfl hb) (eB rfl) rfl) rfl rfl rfl ?_); refine ALK.n (opn_pick_or (eB rfl) rfl rfl (fun hb2 => by first | (rw [hb2]; rfl) | (rw [hb, hb2]; rfl) | simp_all [gd])) rfl ?_; refine nM rfl rfl ?_; (first | refine ALK.g (fun hb => opn_field (o := 0) rfl (eB rfl)) rfl rfl rfl ?_ | refine ALK.g (fun hb => opn_fieldOff (o := 0) rfl (eB rfl)) rfl rfl rfl ?_); (first | refine ALK.g (fun hb => opn_load rfl (eC rfl hb) rfl) rfl rfl rfl ?_ | refine ALK.rg (fun hb => opr_load rfl (eC rfl hb) rfl rfl) rfl rfl rfl ?_ | refine ALK.rg (fun hb => opr_loadRow rfl rfl (eC rfl hb) rfl (by assumption) rfl) rfl rfl rfl ?_ | refine ALK.rg (fun hb => opr_loadK0 rfl (eC rfl hb) rfl (by assumption) rfl) rfl rfl rfl ?_ | refine ALK.rg (fun hb => opr_loadK rfl (eC rfl hb) rfl (by assumption) rfl) rfl rfl rfl ?_); (first | refine ALK.g (fun hb => opn_len rfl (eC rfl hb)) rfl rfl rfl ?_ | refine ALK.g (fun hb => opn_lenRow rfl (eC rfl hb)) rfl rfl rfl ?_ | refine ALK.g (fun hb => opn_lenNil rfl (eC rfl hb)) rfl rfl rfl ?_); (first | refine ALK.g (fun hb => opn_cmp (eC rfl hb) (eB rfl) rfl) rfl rfl rfl ?_ | refine ALK.g (fun hb => opn_cmpB rfl (eC rfl hb) (eB rfl) rfl) rfl rfl rfl ?_); refine ALK.n (opn_pick_or (eB rfl) rfl rfl (fun hb2 => by first | (rw [hb2]; rfl) | (rw [hb, hb2]; rfl) | simp_all [gd])) rfl ?_; refine nM rfl rfl ?_; refine gM rfl rfl rfl rfl ?_; (first | refine ALK.g (fun hb => opn_len rfl (eC rfl hb)) rfl rfl rfl ?_ | refine ALK.g (fun hb => opn_lenRow rfl (eC rfl hb)) rfl rfl rfl ?_ | refine ALK.g (fun hb => opn_lenNil rfl (eC rfl hb)) rfl rfl rfl ?_); (first | refine ALK.g (fun hb => opn_field (o := 1) rfl (eB rfl)) rfl rfl rfl ?_ | refine ALK.g (fun hb => opn_fieldOff (o := 1) rfl (eB rfl)) rfl rfl rfl ?_); (first | refine ALK.g (fun hb => opn_load rfl (eC rfl hb) rfl) rfl rfl rfl ?_ | refine ALK.rg (fun hb => opr_load rfl (eC rfl hb) rfl rfl) rfl rfl rfl ?_ | refine ALK.rg (fun hb => opr_loadRow rfl rfl (eC rfl hb) rfl (by assumption) rfl) rfl rfl rfl ?_ | refine ALK.rg (fun hb => opr_loadK0 rfl (eC rfl hb) rfl (by assumption) rfl) rfl rfl rfl ?_ | refine ALK.rg (fun hb => opr_loadK rfl (eC rfl hb) rfl (by assumption) rfl) rfl rfl rfl ?_); (first | refine ALK.g (fun hb => opn_len rfl (eC rfl hb)) rfl rfl rfl ?_ | refine ALK.g (fun hb => opn_lenRow rfl (eC rfl hb)) rfl rfl rfl ?_ | refine ALK.g (fun hb => opn_lenNil rfl (eC rfl hb)) rfl rfl rfl ?_); (first | refine ALK.g (fun hb => opn_cmp (eC rfl hb) (eC rfl hb) rfl) rfl rfl rfl ?_ | refine ALK.g (fun hb => opn_cmpB rfl (eC rfl hb) (eC rfl hb) rfl) rfl rfl rfl ?_); refine ALK.n (opn_pick_or (eB rfl) rfl rfl (fun hb2 => by first | (rw [hb2]; rfl) | (rw [hb, hb2]; rfl) | simp_all [gd])) rfl ?_; refine ALK.nil ?_; try show WP _ _ _ _ _ _)
  ((repeat apply WP.seq); refine WP.cond rfl (fun h => ?_) (fun h => ?_))
  · simp [hsl, hrl] at h
  (refine WP.skip ?_; show WP _ _ _ _ _ _)
  clear h
  have hne8 : serS st p.txns ≠ [] := fun e => by rw [e] at hsl; simp at hsl
  ((repeat apply WP.seq); apply WP.lreg; refine ALK.n (opn_slitS rfl rfl rfl rfl rfl rfl Parts.nil) rfl ?_; (first | refine ALK.n (opn_field (o := 0) rfl (eB rfl)) rfl ?_ | refine ALK.n (opn_fieldOff (o := 0) rfl (eB rfl)) rfl ?_); (first | refine ALK.n (opn_load rfl (eB rfl) rfl) rfl ?_ | refine ALK.r OpR.ld rfl ?_); refine ALK.a (opa_appendNew (b := 8) (enc := cI) (serS st p.txns) rfl rfl rfl rfl rfl (fun _ => rfl) (eB rfl) (eB rfl) rfl hne8 (by omega) rfl) rfl ?_; refine nA rfl rfl ?_; refine ALK.nil ?_; try show WP _ _ _ _ _ _)
  obtain ⟨i0, i1⟩ := chooseN_in (n := b) (m := 8) (by omega)
  obtain ⟨x, hx⟩ := get_at (xs := serS st p.txns) (k := (chooseN b 8).toNat) (by omega)
  have hlt : (chooseN b 8).toNat < (serS st p.txns).length := by omega
  ((repeat apply WP.seq); apply WP.lreg; refine nM rfl rfl ?_; refine nM rfl rfl ?_; refine ALK.n (opn_call (choose_fn b 8 hb8 (by omega)) (Evs.cons Ev.a (Evs.cons Ev.a Evs.nil))) rfl ?_; refine ALK.n OpN.ix rfl ?_; (first | refine ALK.n (opn_load rfl (eB rfl) rfl) rfl ?_ | refine ALK.r OpR.ld rfl ?_); refine ALK.n (opn_arith (c := wrap64 (x + 1)) (eB rfl) (eB rfl) rfl) rfl ?_; refine ALK.n OpN.ix rfl ?_; (first | refine ALK.e (ope_store rfl (eB rfl) (eB rfl) Cs.a rfl rfl rfl) rfl rfl ?_ | refine ALK.e (ope_storeRow rfl rfl (eB rfl) (eB rfl) (oc_val rfl) rfl rfl (by assumption)) rfl rfl ?_); refine ALK.nil ?_; try show WP _ _ _ _ _ _)
  have hsp := set_ne hx (wrap_ne x)
  have hsl2 : ((serS st p.txns).set (chooseN b 8).toNat (wrap64 (x + 1))).length = 8 := by rw [List.length_set]; exact hsl
  generalize (serS st p.txns).set (chooseN b 8).toNat (wrap64 (x + 1)) = st2 at hsp hsl2
  clear hx i0 i1
  obtain ⟨t3, t4⟩ := aud_store h8 hct hsl2 hsp
  refine WP.shift (Shift.sub (σ' := [(18, .row 1 st2.length), (14, .im (ressV (serR st p.txns))), (11, .off 0 0), (5, .im (IV.ptr (cP p))), (1, .im (intsV st)), (3, .im (IV.int a))]) (H' := [(0, .blk 29 [.im (intsV (serS st p.txns)), .im (bbV srd), .im (bbV swr), .im (iiV svl)]), (1, .row 3 1 cI st2)]) (fr' := 2) [(0, 0), (1, 1)] rfl (SubE.cons rfl (SLe.row rfl (by rw [hsl, hsl2])) SubE.a) (SubH.cons rfl rfl (ObLe.blk SLes.a) (SubH.cons rfl rfl (ObLe.row rfl) SubH.nil))) ?_
  refine WP.shift (Shift.frzRow 18 rfl rfl) ?_
  ((repeat apply WP.seq); apply WP.lreg; refine nM rfl rfl ?_; (first | refine ALK.n (opn_field (o := 1) rfl (eB rfl)) rfl ?_ | refine ALK.n (opn_fieldOff (o := 1) rfl (eB rfl)) rfl ?_); (first | refine ALK.n (opn_load rfl (eB rfl) rfl) rfl ?_ | refine ALK.r OpR.ld rfl ?_); refine nM rfl rfl ?_; refine nM rfl rfl ?_; refine ALK.n (opn_call (Audit_fn st p.txns st2 (serR st p.txns) hB) (Evs.cons Ev.a (Evs.cons Ev.a (Evs.cons Ev.a (Evs.cons Ev.a Evs.nil))))) rfl ?_; refine nM rfl rfl ?_; refine nX rfl rfl rfl ?_; refine nX rfl rfl rfl ?_; refine nA rfl rfl ?_; refine nA rfl rfl ?_; refine ALK.nil ?_; try show WP _ _ _ _ _ _)
  rw [t3, t4]
  ((repeat apply WP.seq); apply WP.lreg; refine nM rfl rfl ?_; refine ALK.n OpN.cm rfl ?_; refine nM rfl rfl ?_; refine gM rfl rfl rfl rfl ?_; (first | refine ALK.g (fun hb => opn_field (o := 1) rfl (eB rfl)) rfl rfl rfl ?_ | refine ALK.g (fun hb => opn_fieldOff (o := 1) rfl (eB rfl)) rfl rfl rfl ?_); (first | refine ALK.g (fun hb => opn_load rfl (eC rfl hb) rfl) rfl rfl rfl ?_ | refine ALK.rg (fun hb => opr_load rfl (eC rfl hb) rfl rfl) rfl rfl rfl ?_ | refine ALK.rg (fun hb => opr_loadRow rfl rfl (eC rfl hb) rfl (by assumption) rfl) rfl rfl rfl ?_ | refine ALK.rg (fun hb => opr_loadK0 rfl (eC rfl hb) rfl (by assumption) rfl) rfl rfl rfl ?_ | refine ALK.rg (fun hb => opr_loadK rfl (eC rfl hb) rfl (by assumption) rfl) rfl rfl rfl ?_); (first | refine ALK.g (fun hb => opn_len rfl (eC rfl hb)) rfl rfl rfl ?_ | refine ALK.g (fun hb => opn_lenRow rfl (eC rfl hb)) rfl rfl rfl ?_ | refine ALK.g (fun hb => opn_lenNil rfl (eC rfl hb)) rfl rfl rfl ?_); (first | refine ALK.g (fun hb => opn_cmp (eC rfl hb) (eC rfl hb) rfl) rfl rfl rfl ?_ | refine ALK.g (fun hb => opn_cmpB rfl (eC rfl hb) (eC rfl hb) rfl) rfl rfl rfl ?_); refine ALK.n (opn_pick_or (eB rfl) rfl rfl (fun hb2 => by first | (rw [hb2]; rfl) | (rw [hb, hb2]; rfl) | simp_all [gd])) rfl ?_; refine ALK.nil ?_; try show WP _ _ _ _ _ _)
  ((repeat apply WP.seq); refine WP.cond rfl (fun h => ?_) (fun h => ?_))
  · simp at h
  (refine WP.skip ?_; show WP _ _ _ _ _ _)
  clear h
  ((repeat apply WP.seq); apply WP.lreg; refine nM rfl rfl ?_; refine ALK.n OpN.ln rfl ?_; refine ALK.n OpN.cm rfl ?_; refine ALK.nil ?_; try show WP _ _ _ _ _ _)
  ((repeat apply WP.seq); refine WP.cond rfl (fun h => ?_) (fun h => ?_))
  · ((repeat apply WP.seq); apply WP.lreg; refine ALK.n (opn_call auditBegun_fn Evs.nil) rfl ?_; refine nA rfl rfl ?_; refine ALK.nil ?_; try show WP _ _ _ _ _ _)
    ((repeat apply WP.seq); refine WP.ret ?_; first | exact RetOk.one Try.results7 ResV.a | exact RetOk.tup Try.results7 rfl ResVs.a)
  (refine WP.skip ?_; show WP _ _ _ _ _ _)
  have hpos : (0 : Int) < (serR st p.txns).length := by simp at h; have := List.length_pos_iff.2 h; omega
  have hne9 : serR st p.txns ≠ [] := fun e => by rw [e] at hpos; simp at hpos
  clear h
  obtain ⟨i0, i1⟩ := chooseN_in (n := a) hpos
  obtain ⟨y, hy⟩ := get_at (xs := serR st p.txns) (k := (chooseN a (serR st p.txns).length).toNat) (by omega)
  ((repeat apply WP.seq); apply WP.lreg; refine nM rfl rfl ?_; refine nM rfl rfl ?_; refine ALK.n OpN.ln rfl ?_; refine ALK.n (opn_call (choose_fn a (serR st p.txns).length ha hpos) (Evs.cons Ev.a (Evs.cons Ev.a Evs.nil))) rfl ?_; refine nA rfl rfl ?_; refine ALK.nil ?_; try show WP _ _ _ _ _ _)
  ((repeat apply WP.seq); apply WP.lreg; refine ALK.n (opn_slitS rfl rfl rfl rfl rfl rfl Parts.nil) rfl ?_; refine nM rfl rfl ?_; refine ALK.a (opa_appendNew (b := 32) (enc := cR) (serR st p.txns) rfl rfl rfl rfl rfl (fun _ => rfl) (eB rfl) (eB rfl) rfl hne9 (by omega) rfl) rfl ?_; refine nA rfl rfl ?_; refine ALK.nil ?_; try show WP _ _ _ _ _ _)
  ((repeat apply WP.seq); apply WP.lreg; refine nM rfl rfl ?_; refine nM rfl rfl ?_; refine nM rfl rfl ?_; refine nM rfl rfl ?_; refine ALK.n OpN.ix rfl ?_; (first | refine ALK.n (opn_field (o := 0) rfl (eB rfl)) rfl ?_ | refine ALK.n (opn_fieldOff (o := 0) rfl (eB rfl)) rfl ?_); (first | refine ALK.n (opn_load rfl (eB rfl) rfl) rfl ?_ | refine ALK.r OpR.ld rfl ?_); refine ALK.n (opn_not (eB rfl)) rfl ?_; refine ALK.n OpN.ix rfl ?_; (first | refine ALK.n (opn_field (o := 0) rfl (eB rfl)) rfl ?_ | refine ALK.n (opn_fieldOff (o := 0) rfl (eB rfl)) rfl ?_); refine ALK.e (ope_storeK (m := (chooseN a (serR st p.txns).length).toNat) (o := 0) (l := [IV.bool (!y.done)]) ⟨!y.done, y.vals⟩ rfl (eB rfl) (eB rfl) Cs.a rfl rfl hy rfl (Nat.le_of_ble_eq_true rfl)) rfl rfl ?_; refine ALK.nil ?_; try show WP _ _ _ _ _ _)
  have hyn : y ≠ ⟨!y.done, y.vals⟩ := fun e => by
    have := congrArg Res.done e
    simp at this
  obtain ⟨t5, t6⟩ := aud_res h8 hct hy hyn
  have hcn : ((chooseN a (serR st p.txns).length).toNat : Int) = chooseN a (serR st p.txns).length := Int.toNat_of_nonneg i0
  rw [hcn] at t6
  have hrl2 : ((serR st p.txns).set (chooseN a (serR st p.txns).length).toNat ⟨!y.done, y.vals⟩).length = (serR st p.txns).length := List.length_set ..
  generalize (serR st p.txns).set (chooseN a (serR st p.txns).length).toNat ⟨!y.done, y.vals⟩ = rs2 at t5 t6 hrl2
  generalize chooseN a (serR st p.txns).length = c at t6
  refine WP.shift (Shift.sub (σ' := [(22, .row 2 rs2.length), (21, .im (IV.int c)), (11, .off 0 0), (5, .im (IV.ptr (cP p))), (1, .im (intsV st))]) (H' := [(0, .blk 29 [.im (intsV (serS st p.txns)), .im (bbV srd), .im (bbV swr), .im (iiV svl)]), (2, .row 68 2 cR rs2)]) (fr' := 3) [(0, 0), (2, 2)] rfl (SubE.cons rfl (SLe.row rfl (by rw [hrl2])) SubE.a) (SubH.cons rfl rfl (ObLe.blk SLes.a) (SubH.cons rfl rfl (ObLe.row rfl) SubH.nil))) ?_
  refine WP.shift (Shift.frzRow 22 rfl rfl) ?_
  ((repeat apply WP.seq); apply WP.lreg; refine nM rfl rfl ?_; (first | refine ALK.n (opn_field (o := 1) rfl (eB rfl)) rfl ?_ | refine ALK.n (opn_fieldOff (o := 1) rfl (eB rfl)) rfl ?_); (first | refine ALK.n (opn_load rfl (eB rfl) rfl) rfl ?_ | refine ALK.r OpR.ld rfl ?_); (first | refine ALK.n (opn_field (o := 0) rfl (eB rfl)) rfl ?_ | refine ALK.n (opn_fieldOff (o := 0) rfl (eB rfl)) rfl ?_); (first | refine ALK.n (opn_load rfl (eB rfl) rfl) rfl ?_ | refine ALK.r OpR.ld rfl ?_); refine nM rfl rfl ?_; refine ALK.n (opn_call (Audit_fn st p.txns (serS st p.txns) rs2 hB) (Evs.cons Ev.a (Evs.cons Ev.a (Evs.cons Ev.a (Evs.cons Ev.a Evs.nil))))) rfl ?_; refine nM rfl rfl ?_; refine nX rfl rfl rfl ?_; refine nX rfl rfl rfl ?_; refine nA rfl rfl ?_; refine nA rfl rfl ?_; refine ALK.nil ?_; try show WP _ _ _ _ _ _)
  rw [t5, t6]
  ((repeat apply WP.seq); apply WP.lreg; refine ALK.n (opn_call auditBegun_fn Evs.nil) rfl ?_; refine nM rfl rfl ?_; refine gM rfl rfl rfl rfl ?_; (first | refine ALK.g (fun hb => opn_cmp (eC rfl hb) (eB rfl) rfl) rfl rfl rfl ?_ | refine ALK.g (fun hb => opn_cmpB rfl (eC rfl hb) (eB rfl) rfl) rfl rfl rfl ?_); refine ALK.n (opn_pick_and (eB rfl) rfl (fun hb2 => by first | exact hb2 | (rw [hb, hb2]; rfl) | simp_all [gd]) rfl) rfl ?_; refine nM rfl rfl ?_; refine gM rfl rfl rfl rfl ?_; refine gM rfl rfl rfl rfl ?_; (first | refine ALK.g (fun hb => opn_cmp (eC rfl hb) (eC rfl hb) rfl) rfl rfl rfl ?_ | refine ALK.g (fun hb => opn_cmpB rfl (eC rfl hb) (eC rfl hb) rfl) rfl rfl rfl ?_); refine ALK.n (opn_pick_and (eB rfl) rfl (fun hb2 => by first | exact hb2 | (rw [hb, hb2]; rfl) | simp_all [gd]) rfl) rfl ?_; refine nA rfl rfl ?_; refine ALK.nil ?_; try show WP _ _ _ _ _ _)
  refine WP.ret ?_
  refine RetOk.one Try.results7 (ResV.tmp rfl (ImOf.im (ILe.bool ?_)))
  simp
end Go.Proofs.Ytjgmbgfcffnanac
