/- Package store and its reference: Serial, the reference's answers. -/
import Derived.Test.YtjgmbgfcffnanacSt2
namespace Go.Proofs.Ytjgmbgfcffnanac
open Go.RowKit

theorem serR_snoc (st : List Int) (l : List Txn) (t : Txn) : serR st (l ++ [t]) = serR st l ++ [applyR (serS st l) t] := by rw [serR_append]; rfl

set_option maxRecDepth 100000 in
theorem store_Serial_fn (st : List Int) (l : List Txn) (hb : TxsB l) : Fn (Cfg.mk Try.prog (ttAt ttl) ttl_ok.ok mixd) 32 [intsV st, txsV l] (IV.tup [intsV (serL st l), ressV (serV st l), IV.int (serE st l)]) := by
  refine Fn.of_wp _ Try.func32 rfl (by kernel_rfl) Try.ntmps32 rfl ?_
  intro F hD hG
  ((repeat apply WP.seq); apply WP.lreg; refine nA rfl rfl ?_; refine nA rfl rfl ?_; refine nA rfl rfl ?_; refine ALK.nil ?_; try show WP _ _ _ _ _ _)
  ((repeat apply WP.seq); apply WP.lreg; refine nM rfl rfl ?_; refine ALK.n (opn_call (store_Check_fn st) (Evs.cons Ev.a Evs.nil)) rfl ?_; refine nA rfl rfl ?_; refine ALK.nil ?_; try show WP _ _ _ _ _ _)
  ((repeat apply WP.seq); apply WP.lreg; refine nM rfl rfl ?_; refine ALK.n OpN.cm rfl ?_; refine ALK.nil ?_; try show WP _ _ _ _ _ _)
  ((repeat apply WP.seq); refine WP.cond rfl (fun h => ?_) (fun h => ?_))
  · have hne : ¬ st.length = 8 := by intro e; simp [e] at h
    have hr : serE st l = 1 := by unfold serE; rw [if_neg hne]
    have hr1 : serL st l = [] := by unfold serL; rw [hr]; rfl
    have hr2 : serV st l = [] := by unfold serV; rw [hr]; rfl
    rw [hr, hr1, hr2, if_neg hne]
    ((repeat apply WP.seq); apply WP.lreg; refine nM rfl rfl ?_; refine nA rfl rfl ?_; refine nA rfl rfl ?_; refine nA rfl rfl ?_; refine ALK.nil ?_; try show WP _ _ _ _ _ _)
    ((repeat apply WP.seq); refine WP.ret ?_; first | exact RetOk.one Try.results32 ResV.a | exact RetOk.tup Try.results32 rfl ResVs.a)
  (refine WP.skip ?_; show WP _ _ _ _ _ _)
  have hst : st.length = 8 := by
    by_cases e : st.length = 8
    · exact e
    · simp [e] at h
  have hr : serE st l = checkTxns l := by unfold serE; rw [if_pos hst]
  ((repeat apply WP.seq); apply WP.lreg; refine nM rfl rfl ?_; refine ALK.n (opn_call (store_Txns_fn _ (by assumption)) (Evs.cons Ev.a Evs.nil)) rfl ?_; refine nA rfl rfl ?_; refine ALK.nil ?_; try show WP _ _ _ _ _ _)
  ((repeat apply WP.seq); apply WP.lreg; refine nM rfl rfl ?_; refine ALK.n OpN.cm rfl ?_; refine ALK.nil ?_; try show WP _ _ _ _ _ _)
  ((repeat apply WP.seq); refine WP.cond rfl (fun h => ?_) (fun h => ?_))
  · ((repeat apply WP.seq); apply WP.lreg; refine nM rfl rfl ?_; refine nA rfl rfl ?_; refine nA rfl rfl ?_; refine nA rfl rfl ?_; refine ALK.nil ?_; try show WP _ _ _ _ _ _)
    have hne : ¬ checkTxns l = 0 := by simpa using h
    have hr1 : serL st l = [] := by unfold serL; rw [hr, if_neg hne]
    have hr2 : serV st l = [] := by unfold serV; rw [hr, if_neg hne]
    rw [hr, hr1, hr2]
    ((repeat apply WP.seq); refine WP.ret ?_; first | exact RetOk.one Try.results32 ResV.a | exact RetOk.tup Try.results32 rfl ResVs.a)
  (refine WP.skip ?_; show WP _ _ _ _ _ _)
  have h0 : checkTxns l = 0 := by simpa using h
  obtain ⟨hl8, hall⟩ := checkTxns_zero h0
  ((repeat apply WP.seq); apply WP.lreg; refine nM rfl rfl ?_; refine ALK.a (opa_callRow (Clone_row st (by omega)) (Evs.cons Ev.a Evs.nil)) rfl ?_; refine nA rfl rfl ?_; refine ALK.nil ?_; try show WP _ _ _ _ _ _)
  rw [hst]
  ((repeat apply WP.seq); apply WP.lreg; refine nA rfl rfl ?_; refine ALK.nil ?_; try show WP _ _ _ _ _ _)
  refine WP.shift (Shift.row0 10 68 2 cR (fun _ => rfl) rfl) ?_
  ((repeat apply WP.seq); apply WP.lreg; refine nM rfl rfl ?_; refine ALK.n OpN.ln rfl ?_; refine nM rfl rfl ?_; refine ALK.nil ?_; try show WP _ _ _ _ _ _)
  ((repeat apply WP.seq); apply WP.block)
  refine WP.loop (fun k : Nat => ⟨[(27, .im (IV.int k)), (25, .im (txsV l)), (26, .im (IV.int l.length)), (9, .row 0 8), (10, .row 1 k)], [(0, .row 3 1 cI (serS st (l.take k))), (1, .row 68 2 cR (serR st (l.take k)))], 2⟩) (fun k => k ≤ l.length) (fun k => l.length - k) 0 (Nat.zero_le _) (Shift.sub [(0, 0), (1, 1)] rfl SubE.a (SubH.cons rfl rfl (ObLe.row rfl) (SubH.cons rfl rfl (ObLe.row rfl) SubH.nil))) ?_
  rintro k hk
  ((repeat apply WP.seq); apply WP.lreg; refine ALK.n OpN.cm rfl ?_; refine ALK.nil ?_; try show WP _ _ _ _ _ _)
  ((repeat apply WP.seq); refine WP.cond rfl (fun h => ?_) (fun h => ?_))
  · (refine WP.skip ?_; show WP _ _ _ _ _ _)
    have hlt : k < l.length := by simpa using h
    obtain ⟨t, ht⟩ := get_at hlt
    have hbt := hb t (List.mem_of_getElem? ht)
    have hok := hall t (List.mem_of_getElem? ht)
    have hn1 : serS st (l.take (k + 1)) = applyS (serS st (l.take k)) t := by rw [take_snoc ht, serS_snoc]
    have hn2 : serR st (l.take (k + 1)) = serR st (l.take k) ++ [applyR (serS st (l.take k)) t] := by rw [take_snoc ht, serR_snoc]
    have hn3 : (serR st (l.take k)).length + [applyR (serS st (l.take k)) t].length = k + 1 := by rw [serR_len, List.length_take]; simp; omega
    ((repeat apply WP.seq); apply WP.block)
    ((repeat apply WP.seq); apply WP.lreg; refine ALK.n OpN.ix rfl ?_; (first | refine ALK.n (opn_load rfl (eB rfl) rfl) rfl ?_ | refine ALK.r OpR.ld rfl ?_); refine ALK.a (opa_alloc rfl rfl) rfl ?_; (first | refine ALK.e (ope_store rfl (eB rfl) (eB rfl) Cs.a rfl rfl rfl) rfl rfl ?_ | refine ALK.e (ope_storeRow rfl rfl (eB rfl) (eB rfl) (oc_val rfl) rfl rfl (by assumption)) rfl rfl ?_); refine ALK.nil ?_; try show WP _ _ _ _ _ _)
    ((repeat apply WP.seq); apply WP.lreg; refine nM rfl rfl ?_; refine nM rfl rfl ?_; (first | refine ALK.n (opn_load rfl (eB rfl) rfl) rfl ?_ | refine ALK.r OpR.ld rfl ?_); refine ALK.e (ope_callE [0] (store_Do_fn (serS st (l.take k)) t (by rw [serS_len, hst]) hbt hok) EvsS.a rfl rfl rfl HIn.a) rfl rfl ?_; refine ALK.n (opn_slit rfl rfl rfl rfl rfl rfl (Pc rfl (eB rfl) Cs.a rfl rfl Parts.nil) rfl) rfl ?_; refine ALK.e (ope_append (b := 32) [applyR (serS st (l.take k)) t] rfl rfl rfl rfl rfl (eB rfl) (eB rfl) rfl rfl (by rw [serR_len, List.length_take]; simp; omega) rfl) rfl rfl ?_; refine nA rfl rfl ?_; refine ALK.nil ?_; try show WP _ _ _ _ _ _)
    ((repeat apply WP.seq); apply WP.lreg; refine ALK.n OpN.ar rfl ?_; refine nM rfl rfl ?_; refine ALK.nil ?_; try show WP _ _ _ _ _ _)
    show ∃ _, _ ∧ _ ∧ _
    exact ⟨k + 1, by omega, by omega, Shift.sub [(0, 0), (1, 3)] rfl SubE.a (SubH.cons rfl rfl (ObLe.row hn1.symm) (SubH.cons rfl rfl (ObLe.row hn2.symm) SubH.nil))⟩
  · ((repeat apply WP.seq); refine WP.exit ?_; show WP _ _ _ _ _ _)
    rw [List.take_of_length_le (by simp at h; omega)]
    refine WP.shift (Shift.frzRow 9 rfl rfl) ?_
    refine WP.shift (Shift.frzRow 10 rfl rfl) ?_
    ((repeat apply WP.seq); apply WP.lreg; refine nM rfl rfl ?_; refine nM rfl rfl ?_; refine nA rfl rfl ?_; refine nA rfl rfl ?_; refine nA rfl rfl ?_; refine ALK.nil ?_; try show WP _ _ _ _ _ _)
    have hr1 : serL st l = serS st l := by unfold serL; rw [hr, if_pos h0]
    have hr2 : serV st l = serR st l := by unfold serV; rw [hr, if_pos h0]
    rw [hr, hr1, hr2, h0]
    ((repeat apply WP.seq); refine WP.ret ?_; first | exact RetOk.one Try.results32 ResV.a | exact RetOk.tup Try.results32 rfl ResVs.a)

set_option maxRecDepth 100000 in
theorem SameResults_fn (xs ys : List Res) : Fn (Cfg.mk Try.prog (ttAt ttl) ttl_ok.ok mixd) 34 [ressV xs, ressV ys] (IV.bool (decide (xs = ys))) := by
  refine Fn.of_wp _ Try.func34 rfl (by kernel_rfl) Try.ntmps34 rfl ?_
  intro F hD hG
  refine WP.len 0 rfl (fun hl1 => ?_)
  refine WP.len 1 rfl (fun hl2 => ?_)
  ((repeat apply WP.seq); apply WP.lreg; refine nA rfl rfl ?_; refine ALK.nil ?_; try show WP _ _ _ _ _ _)
  ((repeat apply WP.seq); apply WP.lreg; refine nM rfl rfl ?_; refine ALK.n OpN.ln rfl ?_; refine nM rfl rfl ?_; refine ALK.n OpN.ln rfl ?_; refine ALK.n OpN.cm rfl ?_; refine ALK.nil ?_; try show WP _ _ _ _ _ _)
  ((repeat apply WP.seq); refine WP.cond rfl (fun h => ?_) (fun h => ?_))
  · ((repeat apply WP.seq); apply WP.lreg; refine nA rfl rfl ?_; refine ALK.nil ?_; try show WP _ _ _ _ _ _)
    have hr : decide (xs = ys) = false := by
      simp only [bne_iff_ne, ne_eq] at h
      exact decide_eq_false fun e => h (by rw [e])
    ((repeat apply WP.seq); refine WP.ret ?_; first | exact RetOk.one Try.results34 ResV.a | exact RetOk.tup Try.results34 rfl ResVs.a)
  (refine WP.skip ?_; show WP _ _ _ _ _ _)
  have hlen : xs.length = ys.length := by simp at h; omega
  ((repeat apply WP.seq); apply WP.lreg; refine nA rfl rfl ?_; refine ALK.nil ?_; try show WP _ _ _ _ _ _)
  ((repeat apply WP.seq); apply WP.block)
  refine WP.loop (fun k : Nat => ⟨[(5, .im (IV.int k)), (0, .im (ressV xs)), (1, .im (ressV ys))], [], 0⟩) (fun k => k ≤ xs.length ∧ xs.take k = ys.take k) (fun k => xs.length - k) 0 ⟨Nat.zero_le _, rfl⟩ (Shift.sub [] rfl SubE.a SubH.nil) ?_
  rintro k ⟨hk, he⟩
  ((repeat apply WP.seq); apply WP.lreg; refine nM rfl rfl ?_; refine nM rfl rfl ?_; refine ALK.n OpN.ln rfl ?_; refine ALK.n OpN.cm rfl ?_; refine ALK.nil ?_; try show WP _ _ _ _ _ _)
  ((repeat apply WP.seq); refine WP.cond rfl (fun h => ?_) (fun h => ?_))
  · (refine WP.skip ?_; show WP _ _ _ _ _ _)
    have hlt : k < xs.length := by simpa using h
    obtain ⟨x, hx⟩ := get_at hlt
    obtain ⟨y, hy⟩ := get_at (xs := ys) (k := k) (by omega)
    ((repeat apply WP.seq); apply WP.block)
    ((repeat apply WP.seq); apply WP.ldraw; refine nM rfl rfl ?_; refine nM rfl rfl ?_; refine ALK.n OpN.ix rfl ?_; (first | refine ALK.n (opn_field (o := 0) rfl (eB rfl)) rfl ?_ | refine ALK.n (opn_fieldOff (o := 0) rfl (eB rfl)) rfl ?_); (first | refine ALK.n (opn_load rfl (eB rfl) rfl) rfl ?_ | refine ALK.r OpR.ld rfl ?_); refine nM rfl rfl ?_; refine nM rfl rfl ?_; refine ALK.n OpN.ix rfl ?_; (first | refine ALK.n (opn_field (o := 0) rfl (eB rfl)) rfl ?_ | refine ALK.n (opn_fieldOff (o := 0) rfl (eB rfl)) rfl ?_); (first | refine ALK.n (opn_load rfl (eB rfl) rfl) rfl ?_ | refine ALK.r OpR.ld rfl ?_); refine ALK.n OpN.cm rfl ?_; refine nM rfl rfl ?_; refine gM rfl rfl rfl rfl ?_; refine gM rfl rfl rfl rfl ?_; (first | refine ALK.g (fun hb => opn_index rfl (eC rfl hb) (eC rfl hb) (by omega) (by assumption)) rfl rfl rfl ?_ | refine ALK.g (fun hb => opn_indexRow1 rfl (eC rfl hb) (eC rfl hb) (by omega) (by omega)) rfl rfl rfl ?_ | refine ALK.g (fun hb => opn_indexRow rfl (eC rfl hb) (eC rfl hb) (by omega) (by omega)) rfl rfl rfl ?_ | refine ALK.g (fun hb => opn_indexArr rfl (eC rfl hb) (eC rfl hb) (by omega) (by omega)) rfl rfl rfl ?_ | refine ALK.g (fun hb => opn_indexArrI rfl (eC rfl hb) (eC rfl hb) (by omega) (by omega)) rfl rfl rfl ?_); (first | refine ALK.g (fun hb => opn_field (o := 1) rfl (eC rfl hb)) rfl rfl rfl ?_ | refine ALK.g (fun hb => opn_fieldOff (o := 1) rfl (eC rfl hb)) rfl rfl rfl ?_); (first | refine ALK.g (fun hb => opn_load rfl (eC rfl hb) rfl) rfl rfl rfl ?_ | refine ALK.rg (fun hb => opr_load rfl (eC rfl hb) rfl rfl) rfl rfl rfl ?_ | refine ALK.rg (fun hb => opr_loadRow rfl rfl (eC rfl hb) rfl (by assumption) rfl) rfl rfl rfl ?_ | refine ALK.rg (fun hb => opr_loadK0 rfl (eC rfl hb) rfl (by assumption) rfl) rfl rfl rfl ?_ | refine ALK.rg (fun hb => opr_loadK rfl (eC rfl hb) rfl (by assumption) rfl) rfl rfl rfl ?_); refine gM rfl rfl rfl rfl ?_; refine gM rfl rfl rfl rfl ?_; (first | refine ALK.g (fun hb => opn_index rfl (eC rfl hb) (eC rfl hb) (by omega) (by assumption)) rfl rfl rfl ?_ | refine ALK.g (fun hb => opn_indexRow1 rfl (eC rfl hb) (eC rfl hb) (by omega) (by omega)) rfl rfl rfl ?_ | refine ALK.g (fun hb => opn_indexRow rfl (eC rfl hb) (eC rfl hb) (by omega) (by omega)) rfl rfl rfl ?_ | refine ALK.g (fun hb => opn_indexArr rfl (eC rfl hb) (eC rfl hb) (by omega) (by omega)) rfl rfl rfl ?_ | refine ALK.g (fun hb => opn_indexArrI rfl (eC rfl hb) (eC rfl hb) (by omega) (by omega)) rfl rfl rfl ?_); (first | refine ALK.g (fun hb => opn_field (o := 1) rfl (eC rfl hb)) rfl rfl rfl ?_ | refine ALK.g (fun hb => opn_fieldOff (o := 1) rfl (eC rfl hb)) rfl rfl rfl ?_); (first | refine ALK.g (fun hb => opn_load rfl (eC rfl hb) rfl) rfl rfl rfl ?_ | refine ALK.rg (fun hb => opr_load rfl (eC rfl hb) rfl rfl) rfl rfl rfl ?_ | refine ALK.rg (fun hb => opr_loadRow rfl rfl (eC rfl hb) rfl (by assumption) rfl) rfl rfl rfl ?_ | refine ALK.rg (fun hb => opr_loadK0 rfl (eC rfl hb) rfl (by assumption) rfl) rfl rfl rfl ?_ | refine ALK.rg (fun hb => opr_loadK rfl (eC rfl hb) rfl (by assumption) rfl) rfl rfl rfl ?_); refine ALK.g (fun hb => opn_call (SameInts_fn _ _) (Evs.cons Ev.a (Evs.cons Ev.a Evs.nil))) rfl rfl rfl ?_; refine ALK.g (fun hb => opn_not (eC rfl hb)) rfl rfl rfl ?_; refine ALK.n (opn_pick_or (eB rfl) rfl rfl (fun hb2 => by first | (rw [hb2]; rfl) | (rw [hb, hb2]; rfl) | simp_all [gd])) rfl ?_; refine ALK.nilD (by kernel_rfl) ?_; try show WP _ _ _ _ _ _)
    ((repeat apply WP.seq); refine WP.cond rfl (fun h => ?_) (fun h => ?_))
    · ((repeat apply WP.seq); apply WP.lreg; refine nA rfl rfl ?_; refine ALK.nil ?_; try show WP _ _ _ _ _ _)
      have hr : decide (xs = ys) = false := decide_eq_false (ne_at hx hy fun e => by subst e; simp at h)
      ((repeat apply WP.seq); refine WP.ret ?_; first | exact RetOk.one Try.results34 ResV.a | exact RetOk.tup Try.results34 rfl ResVs.a)
    (refine WP.skip ?_; show WP _ _ _ _ _ _)
    ((repeat apply WP.seq); apply WP.lreg; refine nM rfl rfl ?_; refine ALK.n OpN.ar rfl ?_; refine nA rfl rfl ?_; refine ALK.nil ?_; try show WP _ _ _ _ _ _)
    show ∃ _, _ ∧ _ ∧ _
    have hxy : x = y := by
      obtain ⟨a, b⟩ := x
      obtain ⟨c, d⟩ := y
      simp at h
      rw [h.1, h.2]
    exact ⟨k + 1, ⟨by omega, take_eq_next he hx hy hxy⟩, by omega, (Shift.sub [] rfl SubE.a SubH.nil)⟩
  · ((repeat apply WP.seq); refine WP.exit ?_; show WP _ _ _ _ _ _)
    ((repeat apply WP.seq); apply WP.lreg; refine nA rfl rfl ?_; refine ALK.nil ?_; try show WP _ _ _ _ _ _)
    have hr : decide (xs = ys) = true := decide_eq_true (take_eq_all he (by simp at h; omega) hlen)
    ((repeat apply WP.seq); refine WP.ret ?_; first | exact RetOk.one Try.results34 ResV.a | exact RetOk.tup Try.results34 rfl ResVs.a)
end Go.Proofs.Ytjgmbgfcffnanac
