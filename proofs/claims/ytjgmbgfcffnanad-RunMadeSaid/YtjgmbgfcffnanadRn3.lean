/- Package run and its reference: run; the laws RunTells and RunSame. -/
import Derived.Test.YtjgmbgfcffnanadRn2
namespace Go.Proofs.Ytjgmbgfcffnanad
open Go.RowKit

theorem zero_cR (μ : Mem) : IVs μ (cR res0) [.bool false, .slice none 0 0] := ⟨_, _, rfl, rfl, _, _, rfl, ILe.nil (enc := cI) (k := 1) rfl μ _ rfl, rfl⟩
set_option maxRecDepth 100000 in
set_option maxHeartbeats 1000000 in
theorem run_Run_fn (s : List Int) (l : List Txn) (ps : List Int) (hb : TxsB l) : Fn (Cfg.mk Try.prog (ttAt ttl) ttl_ok.ok mixd) 6 [intsV s, txsV l, intsV ps] (IV.tup [intsV (runL s l ps), ressV (runV s l ps), IV.int (runE s l ps)]) := by
  refine Fn.of_wp _ Try.func6 rfl (by kernel_rfl) Try.ntmps6 rfl ?_
  intro F hD hG
  refine WP.len 2 rfl (fun hl2 => ?_)
  ((repeat apply WP.seq); apply WP.lreg; refine nA rfl rfl ?_; refine nA rfl rfl ?_; refine nA rfl rfl ?_; refine ALK.nil ?_; try show WP _ _ _ _ _ _)
  ((repeat apply WP.seq); apply WP.lreg; refine nM rfl rfl ?_; refine nM rfl rfl ?_; refine nM rfl rfl ?_; refine ALK.n (opn_call (run_Check_fn s l ps hb) (Evs.cons Ev.a (Evs.cons Ev.a (Evs.cons Ev.a Evs.nil)))) rfl ?_; refine nA rfl rfl ?_; refine ALK.nil ?_; try show WP _ _ _ _ _ _)
  ((repeat apply WP.seq); apply WP.lreg; refine nM rfl rfl ?_; refine ALK.n OpN.cm rfl ?_; refine ALK.nil ?_; try show WP _ _ _ _ _ _)
  ((repeat apply WP.seq); refine WP.cond rfl (fun h => ?_) (fun h => ?_))
  · ((repeat apply WP.seq); apply WP.lreg; refine nM rfl rfl ?_; refine nA rfl rfl ?_; refine nA rfl rfl ?_; refine nA rfl rfl ?_; refine ALK.nil ?_; try show WP _ _ _ _ _ _)
    have hne : ¬ runE s l ps = 0 := by simpa using h
    have hr1 : runL s l ps = [] := by unfold runL; rw [if_neg hne]
    have hr2 : runV s l ps = [] := by unfold runV; rw [if_neg hne]
    rw [hr1, hr2]
    ((repeat apply WP.seq); refine WP.ret ?_; first | exact RetOk.one Try.results6 ResV.a | exact RetOk.tup Try.results6 rfl ResVs.a)
  (refine WP.skip ?_; show WP _ _ _ _ _ _)
  have h0 : runE s l ps = 0 := by simpa using h
  obtain ⟨h8, hc, h200, hpk⟩ := runE_zero h0
  obtain ⟨hlen8, hall⟩ := checkTxns_zero hc
  have hrg := pickE_range hpk
  ((repeat apply WP.seq); apply WP.lreg; refine nM rfl rfl ?_; refine ALK.a (opa_callRow (Clone_row s (by omega)) (Evs.cons Ev.a Evs.nil)) rfl ?_; refine nA rfl rfl ?_; refine ALK.nil ?_; try show WP _ _ _ _ _ _)
  rw [h8]
  ((repeat apply WP.seq); apply WP.lreg; refine nM rfl rfl ?_; refine ALK.n OpN.ln rfl ?_; refine ALK.a (opa_makeL (n := l.length) (b := 32) (enc := cR) res0 rfl rfl (fun _ => rfl) zero_cR rfl rfl (eB rfl) (eB rfl) rfl (by omega) (by omega)) rfl ?_; refine nA rfl rfl ?_; refine ALK.nil ?_; try show WP _ _ _ _ _ _)
  ((repeat apply WP.seq); apply WP.lreg; refine nM rfl rfl ?_; refine ALK.n OpN.ln rfl ?_; refine nM rfl rfl ?_; refine ALK.nil ?_; try show WP _ _ _ _ _ _)
  ((repeat apply WP.seq); apply WP.block)
  refine WP.loop (fun k : Nat => ⟨[(28, .im (IV.int k)), (26, .im (intsV ps)), (27, .im (IV.int ps.length)), (1, .im (txsV l)), (10, .row 0 8), (11, .row 1 l.length)], [(0, .row 3 1 cI (runTo s l (ps.take k)).1), (1, .row 42 2 cR (runTo s l (ps.take k)).2)], 2⟩) (fun k => k ≤ ps.length) (fun k => ps.length - k) 0 (Nat.zero_le _) (Shift.sub [(0, 0), (1, 1)] rfl SubE.a (SubH.cons rfl rfl (ObLe.row rfl) (SubH.cons rfl rfl (ObLe.row rfl) SubH.nil))) ?_
  rintro k hk
  have hlen := runTo_len (s := s) (l := l) (ps := ps.take k)
  ((repeat apply WP.seq); apply WP.lreg; refine ALK.n OpN.cm rfl ?_; refine ALK.nil ?_; try show WP _ _ _ _ _ _)
  ((repeat apply WP.seq); refine WP.cond rfl (fun h => ?_) (fun h => ?_))
  · (refine WP.skip ?_; show WP _ _ _ _ _ _)
    have hlt : k < ps.length := by simpa using h
    obtain ⟨p, hp⟩ := get_at hlt
    obtain ⟨hp0, hpl⟩ := hrg p (List.mem_of_getElem? hp)
    obtain ⟨t, ht⟩ := get_at (xs := l) (k := p.toNat) (by omega)
    have htb := hb t (List.mem_of_getElem? ht)
    have hok := hall t (List.mem_of_getElem? ht)
    have hnx := runTo_next (s := s) hp ht
    obtain ⟨u, hu⟩ := get_at (xs := (runTo s l (ps.take k)).2) (k := p.toNat) (by omega)
    have hx1 : (runTo s l (ps.take (k + 1))).1 = applyS (runTo s l (ps.take k)).1 t := by rw [hnx]
    have hx2 : (runTo s l (ps.take (k + 1))).2 = (runTo s l (ps.take k)).2.set p.toNat (applyR (runTo s l (ps.take k)).1 t) := by rw [hnx]
    ((repeat apply WP.seq); apply WP.block)
    ((repeat apply WP.seq); apply WP.lreg; refine ALK.n OpN.ix rfl ?_; (first | refine ALK.n (opn_load rfl (eB rfl) rfl) rfl ?_ | refine ALK.r OpR.ld rfl ?_); refine nA rfl rfl ?_; refine ALK.nil ?_; try show WP _ _ _ _ _ _)
    ((repeat apply WP.seq); apply WP.lreg; refine nM rfl rfl ?_; refine nM rfl rfl ?_; refine nM rfl rfl ?_; refine nM rfl rfl ?_; refine nM rfl rfl ?_; refine ALK.n OpN.ix rfl ?_; (first | refine ALK.n (opn_load rfl (eB rfl) rfl) rfl ?_ | refine ALK.r OpR.ld rfl ?_); refine ALK.e (ope_callE [0] (store_Do_fn (runTo s l (ps.take k)).1 t (by omega) htb hok) EvsS.a rfl rfl rfl HIn.a) rfl rfl ?_; refine ALK.n OpN.ix rfl ?_; refine ALK.e (ope_storeK0 (applyR (runTo s l (ps.take k)).1 t) rfl (eB rfl) (eB rfl) cs_iagg rfl rfl hu rfl) rfl rfl ?_; refine ALK.nil ?_; try show WP _ _ _ _ _ _)
    ((repeat apply WP.seq); apply WP.lreg; refine ALK.n OpN.ar rfl ?_; refine nM rfl rfl ?_; refine ALK.nil ?_; try show WP _ _ _ _ _ _)
    show ∃ _, _ ∧ _ ∧ _
    exact ⟨k + 1, by omega, by omega, Shift.sub [(0, 0), (1, 1)] rfl SubE.a (SubH.cons rfl rfl (ObLe.row hx1.symm) (SubH.cons rfl rfl (ObLe.row hx2.symm) SubH.nil))⟩
  · ((repeat apply WP.seq); refine WP.exit ?_; show WP _ _ _ _ _ _)
    rw [List.take_of_length_le (by simp at h; omega)]
    refine WP.shift (Shift.frzRow 10 rfl rfl) ?_
    refine WP.shift (Shift.frzRow 11 rfl rfl) ?_
    ((repeat apply WP.seq); apply WP.lreg; refine nM rfl rfl ?_; refine nM rfl rfl ?_; refine nA rfl rfl ?_; refine nA rfl rfl ?_; refine nA rfl rfl ?_; refine ALK.nil ?_; try show WP _ _ _ _ _ _)
    have hr1 : runL s l ps = (runTo s l ps).1 := by unfold runL; rw [if_pos h0]
    have hr2 : runV s l ps = (runTo s l ps).2 := by unfold runV; rw [if_pos h0]
    rw [hr1, hr2, h0]
    ((repeat apply WP.seq); refine WP.ret ?_; first | exact RetOk.one Try.results6 ResV.a | exact RetOk.tup Try.results6 rfl ResVs.a)

set_option maxRecDepth 100000 in
set_option maxHeartbeats 1000000 in
theorem PicksRun_fn (s : List Int) (l : List Txn) (ps : List Int) (hb : TxsB l) (h0 : runE s l ps = 0) : Fn (Cfg.mk Try.prog (ttAt ttl) ttl_ok.ok mixd) 8 [intsV s, txsV l, intsV ps] (IV.tup [intsV (runTo s l ps).1, ressV (runTo s l ps).2]) := by
  obtain ⟨h8, hc, h200, hpk⟩ := runE_zero h0
  obtain ⟨hlen8, hall⟩ := checkTxns_zero hc
  have hrg := pickE_range hpk
  refine Fn.of_wp _ Try.func8 rfl (by kernel_rfl) Try.ntmps8 rfl ?_
  intro F hD hG
  ((repeat apply WP.seq); apply WP.lreg; refine nA rfl rfl ?_; refine nA rfl rfl ?_; refine ALK.nil ?_; try show WP _ _ _ _ _ _)
  ((repeat apply WP.seq); apply WP.lreg; refine ALK.a (opa_slit0 cI rfl rfl (fun _ => rfl)) rfl ?_; refine nM rfl rfl ?_; refine ALK.e (ope_append (b := 8) s rfl rfl rfl rfl rfl (eB rfl) (eB rfl) rfl rfl (by simp; omega) rfl) rfl rfl ?_; refine nA rfl rfl ?_; refine ALK.nil ?_; try show WP _ _ _ _ _ _)
  refine WP.shift (Shift.frzRow 8 rfl rfl) ?_
  rw [List.nil_append]
  ((repeat apply WP.seq); apply WP.lreg; refine nM rfl rfl ?_; refine ALK.n OpN.ln rfl ?_; refine ALK.a (opa_makeL (n := l.length) (b := 32) (enc := cR) res0 rfl rfl (fun _ => rfl) zero_cR rfl rfl (eB rfl) (eB rfl) rfl (by omega) (by omega)) rfl ?_; refine nA rfl rfl ?_; refine ALK.nil ?_; try show WP _ _ _ _ _ _)
  ((repeat apply WP.seq); apply WP.lreg; refine nA rfl rfl ?_; refine ALK.nil ?_; try show WP _ _ _ _ _ _)
  ((repeat apply WP.seq); apply WP.block)
  refine WP.loop (fun k : Nat => ⟨[(10, .im (IV.int k)), (2, .im (intsV ps)), (1, .im (txsV l)), (8, .im (intsV (runTo s l (ps.take k)).1)), (9, .row 0 l.length)], [(0, .row 42 2 cR (runTo s l (ps.take k)).2)], 1⟩) (fun k => k ≤ ps.length) (fun k => ps.length - k) 0 (Nat.zero_le _) (Shift.sub [(0, 2)] rfl SubE.a (SubH.cons rfl rfl (ObLe.row rfl) SubH.nil)) ?_
  rintro k hk
  have hlen := runTo_len (s := s) (l := l) (ps := ps.take k)
  ((repeat apply WP.seq); apply WP.lreg; refine nM rfl rfl ?_; refine nM rfl rfl ?_; refine ALK.n OpN.ln rfl ?_; refine ALK.n OpN.cm rfl ?_; refine ALK.nil ?_; try show WP _ _ _ _ _ _)
  ((repeat apply WP.seq); refine WP.cond rfl (fun h => ?_) (fun h => ?_))
  · (refine WP.skip ?_; show WP _ _ _ _ _ _)
    have hlt : k < ps.length := by simpa using h
    obtain ⟨p, hp⟩ := get_at hlt
    obtain ⟨hp0, hpl⟩ := hrg p (List.mem_of_getElem? hp)
    obtain ⟨t, ht⟩ := get_at (xs := l) (k := p.toNat) (by omega)
    have htb := hb t (List.mem_of_getElem? ht)
    have hok := hall t (List.mem_of_getElem? ht)
    have hnx := runTo_next (s := s) hp ht
    obtain ⟨u, hu⟩ := get_at (xs := (runTo s l (ps.take k)).2) (k := p.toNat) (by omega)
    have hx1 : (runTo s l (ps.take (k + 1))).1 = applyS (runTo s l (ps.take k)).1 t := by rw [hnx]
    have hx2 : (runTo s l (ps.take (k + 1))).2 = (runTo s l (ps.take k)).2.set p.toNat (applyR (runTo s l (ps.take k)).1 t) := by rw [hnx]
    ((repeat apply WP.seq); apply WP.block)
    ((repeat apply WP.seq); apply WP.ldraw; refine nM rfl rfl ?_; refine nM rfl rfl ?_; refine nM rfl rfl ?_; refine ALK.n OpN.ix rfl ?_; (first | refine ALK.n (opn_load rfl (eB rfl) rfl) rfl ?_ | refine ALK.r OpR.ld rfl ?_); refine nM rfl rfl ?_; refine nM rfl rfl ?_; refine nM rfl rfl ?_; refine nM rfl rfl ?_; refine ALK.n OpN.ix rfl ?_; (first | refine ALK.n (opn_load rfl (eB rfl) rfl) rfl ?_ | refine ALK.r OpR.ld rfl ?_); refine ALK.n OpN.ix rfl ?_; (first | refine ALK.n (opn_load rfl (eB rfl) rfl) rfl ?_ | refine ALK.r OpR.ld rfl ?_); refine ALK.n (opn_call (ref_apply_fn (runTo s l (ps.take k)).1 t (by omega) htb hok) (Evs.cons Ev.a (Evs.cons Ev.a Evs.nil))) rfl ?_; refine nM rfl rfl ?_; refine nX rfl rfl rfl ?_; refine nX rfl rfl rfl ?_; refine nA rfl rfl ?_; refine ALK.n OpN.ix rfl ?_; refine ALK.e (ope_storeK0 (applyR (runTo s l (ps.take k)).1 t) rfl (eB rfl) (eB rfl) cs_iagg rfl rfl hu rfl) rfl rfl ?_; refine ALK.nilD (by kernel_rfl) ?_; try show WP _ _ _ _ _ _)
    rw [← hx1]
    ((repeat apply WP.seq); apply WP.lreg; refine nM rfl rfl ?_; refine ALK.n OpN.ar rfl ?_; refine nA rfl rfl ?_; refine ALK.nil ?_; try show WP _ _ _ _ _ _)
    show ∃ _, _ ∧ _ ∧ _
    exact ⟨k + 1, by omega, by omega, Shift.sub [(0, 0)] rfl SubE.a (SubH.cons rfl rfl (ObLe.row hx2.symm) SubH.nil)⟩
  · ((repeat apply WP.seq); refine WP.exit ?_; show WP _ _ _ _ _ _)
    rw [List.take_of_length_le (by simp at h; omega)]
    refine WP.shift (Shift.frzRow 9 rfl rfl) ?_
    ((repeat apply WP.seq); apply WP.lreg; refine nM rfl rfl ?_; refine nM rfl rfl ?_; refine nA rfl rfl ?_; refine nA rfl rfl ?_; refine ALK.nil ?_; try show WP _ _ _ _ _ _)
    ((repeat apply WP.seq); refine WP.ret ?_; first | exact RetOk.one Try.results8 ResV.a | exact RetOk.tup Try.results8 rfl ResVs.a)

def lr : List Txn := [payT 3, noteT, markT 9]
set_option maxRecDepth 100000 in
theorem runBegun_fn : Fn (Cfg.mk Try.prog (ttAt ttl) ttl_ok.ok mixd) 9 [] (IV.bool true) := by
  have hb3 : TxsB lr := .cons (payB 3) (.cons noteB (.cons (markB 9) .nil))
  have hp := payB 3
  have e0 : (runV st8 lr [2, 0, 1])[(0 : Int).toNat]? = some ⟨true, [5, 1]⟩ := by decide +kernel
  have e1 : (runV st8 lr [2, 0, 1])[(1 : Int).toNat]? = some ⟨true, [4]⟩ := by decide +kernel
  refine Fn.of_wp _ Try.func9 rfl (by kernel_rfl) Try.ntmps9 rfl ?_
  intro F hD hG
  ((repeat apply WP.seq); apply WP.lreg; refine nA rfl rfl ?_; refine ALK.nil ?_; try show WP _ _ _ _ _ _)
  ((repeat apply WP.seq); apply WP.lreg; refine ALK.n (opn_slit rfl rfl rfl rfl rfl rfl (Pc rfl (eB rfl) Cs.a rfl rfl (Pc rfl (eB rfl) Cs.a rfl rfl (Pc rfl (eB rfl) Cs.a rfl rfl (Pc rfl (eB rfl) Cs.a rfl rfl (Pc rfl (eB rfl) Cs.a rfl rfl (Pc rfl (eB rfl) Cs.a rfl rfl (Pc rfl (eB rfl) Cs.a rfl rfl (Pc rfl (eB rfl) Cs.a rfl rfl Parts.nil)))))))) rfl) rfl ?_; refine nA rfl rfl ?_; refine ALK.nil ?_; try show WP _ _ _ _ _ _)
  ((repeat apply WP.seq); apply WP.lreg; refine ALK.n (opn_call (pay_fn _) (Evs.cons Ev.a Evs.nil)) rfl ?_; refine ALK.n (opn_call (note_fn) Evs.nil) rfl ?_; refine ALK.n (opn_call (mark_fn _) (Evs.cons Ev.a Evs.nil)) rfl ?_; refine ALK.n (opn_slit rfl rfl rfl rfl rfl rfl (Pc rfl (eB rfl) Cs.a rfl rfl (Pc rfl (eB rfl) Cs.a rfl rfl (Pc rfl (eB rfl) Cs.a rfl rfl Parts.nil))) rfl) rfl ?_; refine nA rfl rfl ?_; refine ALK.nil ?_; try show WP _ _ _ _ _ _)
  ((repeat apply WP.seq); apply WP.lreg; refine nM rfl rfl ?_; refine nM rfl rfl ?_; refine ALK.n (opn_slit rfl rfl rfl rfl rfl rfl (Pc rfl (eB rfl) Cs.a rfl rfl (Pc rfl (eB rfl) Cs.a rfl rfl (Pc rfl (eB rfl) Cs.a rfl rfl Parts.nil))) rfl) rfl ?_; refine ALK.n (opn_call (run_Run_fn st8 lr [2, 0, 1] hb3) (Evs.cons Ev.a (Evs.cons Ev.a (Evs.cons Ev.a Evs.nil)))) rfl ?_; refine nM rfl rfl ?_; refine nX rfl rfl rfl ?_; refine nX rfl rfl rfl ?_; refine nX rfl rfl rfl ?_; refine nA rfl rfl ?_; refine nA rfl rfl ?_; refine nA rfl rfl ?_; refine ALK.nil ?_; try show WP _ _ _ _ _ _)
  ((repeat apply WP.seq); apply WP.lreg; refine nM rfl rfl ?_; refine ALK.n OpN.cm rfl ?_; refine nM rfl rfl ?_; refine gM rfl rfl rfl rfl ?_; refine ALK.g (fun hb => opn_slit rfl rfl rfl rfl rfl rfl (Pc rfl (eB rfl) Cs.a rfl rfl (Pc rfl (eB rfl) Cs.a rfl rfl (Pc rfl (eB rfl) Cs.a rfl rfl (Pc rfl (eB rfl) Cs.a rfl rfl (Pc rfl (eB rfl) Cs.a rfl rfl (Pc rfl (eB rfl) Cs.a rfl rfl (Pc rfl (eB rfl) Cs.a rfl rfl (Pc rfl (eB rfl) Cs.a rfl rfl Parts.nil)))))))) rfl) rfl rfl rfl ?_; refine ALK.g (fun hb => opn_call (SameInts_fn _ [2, 4, 0, 0, 0, 4, 0, 9]) (Evs.cons Ev.a (Evs.cons Ev.a Evs.nil))) rfl rfl rfl ?_; refine ALK.n (opn_pick_and (eB rfl) rfl (fun hb2 => by first | exact hb2 | (rw [hb, hb2]; rfl) | simp_all [gd]) rfl) rfl ?_; refine nM rfl rfl ?_; refine gM rfl rfl rfl rfl ?_; (first | refine ALK.g (fun hb => opn_len rfl (eC rfl hb)) rfl rfl rfl ?_ | refine ALK.g (fun hb => opn_lenRow rfl (eC rfl hb)) rfl rfl rfl ?_ | refine ALK.g (fun hb => opn_lenNil rfl (eC rfl hb)) rfl rfl rfl ?_); (first | refine ALK.g (fun hb => opn_cmp (eC rfl hb) (eB rfl) rfl) rfl rfl rfl ?_ | refine ALK.g (fun hb => opn_cmpB rfl (eC rfl hb) (eB rfl) rfl) rfl rfl rfl ?_); refine ALK.n (opn_pick_and (eB rfl) rfl (fun hb2 => by first | exact hb2 | (rw [hb, hb2]; rfl) | simp_all [gd]) rfl) rfl ?_; refine nM rfl rfl ?_; refine gM rfl rfl rfl rfl ?_; refine ALK.g (fun hb => opn_index rfl (eC rfl hb) (eB rfl) (by omega) e0) rfl rfl rfl ?_; (first | refine ALK.g (fun hb => opn_field (o := 0) rfl (eC rfl hb)) rfl rfl rfl ?_ | refine ALK.g (fun hb => opn_fieldOff (o := 0) rfl (eC rfl hb)) rfl rfl rfl ?_); (first | refine ALK.g (fun hb => opn_load rfl (eC rfl hb) rfl) rfl rfl rfl ?_ | refine ALK.rg (fun hb => opr_load rfl (eC rfl hb) rfl rfl) rfl rfl rfl ?_ | refine ALK.rg (fun hb => opr_loadRow rfl rfl (eC rfl hb) rfl (by assumption) rfl) rfl rfl rfl ?_ | refine ALK.rg (fun hb => opr_loadK0 rfl (eC rfl hb) rfl (by assumption) rfl) rfl rfl rfl ?_ | refine ALK.rg (fun hb => opr_loadK rfl (eC rfl hb) rfl (by assumption) rfl) rfl rfl rfl ?_); refine ALK.n (opn_pick_and (eB rfl) rfl (fun hb2 => by first | exact hb2 | (rw [hb, hb2]; rfl) | simp_all [gd]) rfl) rfl ?_; refine nM rfl rfl ?_; refine gM rfl rfl rfl rfl ?_; refine ALK.g (fun hb => opn_index rfl (eC rfl hb) (eB rfl) (by omega) e1) rfl rfl rfl ?_; (first | refine ALK.g (fun hb => opn_field (o := 1) rfl (eC rfl hb)) rfl rfl rfl ?_ | refine ALK.g (fun hb => opn_fieldOff (o := 1) rfl (eC rfl hb)) rfl rfl rfl ?_); (first | refine ALK.g (fun hb => opn_load rfl (eC rfl hb) rfl) rfl rfl rfl ?_ | refine ALK.rg (fun hb => opr_load rfl (eC rfl hb) rfl rfl) rfl rfl rfl ?_ | refine ALK.rg (fun hb => opr_loadRow rfl rfl (eC rfl hb) rfl (by assumption) rfl) rfl rfl rfl ?_ | refine ALK.rg (fun hb => opr_loadK0 rfl (eC rfl hb) rfl (by assumption) rfl) rfl rfl rfl ?_ | refine ALK.rg (fun hb => opr_loadK rfl (eC rfl hb) rfl (by assumption) rfl) rfl rfl rfl ?_); refine ALK.g (fun hb => opn_slit rfl rfl rfl rfl rfl rfl (Pc rfl (eB rfl) Cs.a rfl rfl Parts.nil) rfl) rfl rfl rfl ?_; refine ALK.g (fun hb => opn_call (SameInts_fn _ [4]) (Evs.cons Ev.a (Evs.cons Ev.a Evs.nil))) rfl rfl rfl ?_; refine ALK.n (opn_pick_and (eB rfl) rfl (fun hb2 => by first | exact hb2 | (rw [hb, hb2]; rfl) | simp_all [gd]) rfl) rfl ?_; refine nM rfl rfl ?_; refine gM rfl rfl rfl rfl ?_; refine gM rfl rfl rfl rfl ?_; refine ALK.g (fun hb => opn_slit rfl rfl rfl rfl rfl rfl (Pc rfl (eB rfl) Cs.a rfl rfl (Pc rfl (eB rfl) Cs.a rfl rfl (Pc rfl (eB rfl) Cs.a rfl rfl Parts.nil))) rfl) rfl rfl rfl ?_; refine ALK.g (fun hb => opn_call (run_Check_fn st8 lr [1, 0, 2] hb3) (Evs.cons Ev.a (Evs.cons Ev.a (Evs.cons Ev.a Evs.nil)))) rfl rfl rfl ?_; (first | refine ALK.g (fun hb => opn_cmp (eC rfl hb) (eB rfl) rfl) rfl rfl rfl ?_ | refine ALK.g (fun hb => opn_cmpB rfl (eC rfl hb) (eB rfl) rfl) rfl rfl rfl ?_); refine ALK.n (opn_pick_and (eB rfl) rfl (fun hb2 => by first | exact hb2 | (rw [hb, hb2]; rfl) | simp_all [gd]) rfl) rfl ?_; refine nM rfl rfl ?_; refine gM rfl rfl rfl rfl ?_; refine gM rfl rfl rfl rfl ?_; refine ALK.g (fun hb => opn_slit rfl rfl rfl rfl rfl rfl (Pc rfl (eB rfl) Cs.a rfl rfl (Pc rfl (eB rfl) Cs.a rfl rfl Parts.nil)) rfl) rfl rfl rfl ?_; refine ALK.g (fun hb => opn_call (run_Check_fn st8 lr [0, 0] hb3) (Evs.cons Ev.a (Evs.cons Ev.a (Evs.cons Ev.a Evs.nil)))) rfl rfl rfl ?_; (first | refine ALK.g (fun hb => opn_cmp (eC rfl hb) (eB rfl) rfl) rfl rfl rfl ?_ | refine ALK.g (fun hb => opn_cmpB rfl (eC rfl hb) (eB rfl) rfl) rfl rfl rfl ?_); refine ALK.n (opn_pick_and (eB rfl) rfl (fun hb2 => by first | exact hb2 | (rw [hb, hb2]; rfl) | simp_all [gd]) rfl) rfl ?_; refine nM rfl rfl ?_; refine gM rfl rfl rfl rfl ?_; refine gM rfl rfl rfl rfl ?_; refine ALK.g (fun hb => opn_slit rfl rfl rfl rfl rfl rfl (Pc rfl (eB rfl) Cs.a rfl rfl Parts.nil) rfl) rfl rfl rfl ?_; refine ALK.g (fun hb => opn_call (run_Check_fn st8 lr [0] hb3) (Evs.cons Ev.a (Evs.cons Ev.a (Evs.cons Ev.a Evs.nil)))) rfl rfl rfl ?_; (first | refine ALK.g (fun hb => opn_cmp (eC rfl hb) (eB rfl) rfl) rfl rfl rfl ?_ | refine ALK.g (fun hb => opn_cmpB rfl (eC rfl hb) (eB rfl) rfl) rfl rfl rfl ?_); refine ALK.n (opn_pick_and (eB rfl) rfl (fun hb2 => by first | exact hb2 | (rw [hb, hb2]; rfl) | simp_all [gd]) rfl) rfl ?_; refine nM rfl rfl ?_; refine gM rfl rfl rfl rfl ?_; refine gM rfl rfl rfl rfl ?_; refine ALK.g (fun hb => opn_slit rfl rfl rfl rfl rfl rfl (Pc rfl (eB rfl) Cs.a rfl rfl Parts.nil) rfl) rfl rfl rfl ?_; refine ALK.g (fun hb => opn_call (run_Check_fn st8 lr [3] hb3) (Evs.cons Ev.a (Evs.cons Ev.a (Evs.cons Ev.a Evs.nil)))) rfl rfl rfl ?_; (first | refine ALK.g (fun hb => opn_cmp (eC rfl hb) (eB rfl) rfl) rfl rfl rfl ?_ | refine ALK.g (fun hb => opn_cmpB rfl (eC rfl hb) (eB rfl) rfl) rfl rfl rfl ?_); refine ALK.n (opn_pick_and (eB rfl) rfl (fun hb2 => by first | exact hb2 | (rw [hb, hb2]; rfl) | simp_all [gd]) rfl) rfl ?_; refine nA rfl rfl ?_; refine ALK.nil ?_; try show WP _ _ _ _ _ _)
  refine WP.ret ?_
  refine RetOk.one Try.results9 (ResV.tmp rfl (ImOf.im (ILe.bool ?_)))
  decide +kernel

set_option maxRecDepth 100000 in
theorem RunTells_fn (s : List Int) (l : List Txn) (ps : List Int) (hbt : TxsB l) : Fn (Cfg.mk Try.prog (ttAt ttl) ttl_ok.ok mixd) 3 [intsV s, txsV l, intsV ps] (IV.bool true) := by
  refine Fn.of_wp _ Try.func3 rfl (by kernel_rfl) Try.ntmps3 rfl ?_
  intro F hD hG
  ((repeat apply WP.seq); apply WP.lreg; refine nA rfl rfl ?_; refine ALK.nil ?_; try show WP _ _ _ _ _ _)
  ((repeat apply WP.seq); apply WP.lreg; refine nM rfl rfl ?_; refine nM rfl rfl ?_; refine nM rfl rfl ?_; refine ALK.n (opn_call (run_Run_fn s l ps hbt) (Evs.cons Ev.a (Evs.cons Ev.a (Evs.cons Ev.a Evs.nil)))) rfl ?_; refine nM rfl rfl ?_; refine nX rfl rfl rfl ?_; refine nX rfl rfl rfl ?_; refine nX rfl rfl rfl ?_; refine nA rfl rfl ?_; refine nA rfl rfl ?_; refine nA rfl rfl ?_; refine ALK.nil ?_; try show WP _ _ _ _ _ _)
  ((repeat apply WP.seq); apply WP.lreg; refine nM rfl rfl ?_; refine nM rfl rfl ?_; refine nM rfl rfl ?_; refine ALK.n (opn_call (CheckPicks_fn s l ps hbt) (Evs.cons Ev.a (Evs.cons Ev.a (Evs.cons Ev.a Evs.nil)))) rfl ?_; refine nA rfl rfl ?_; refine ALK.nil ?_; try show WP _ _ _ _ _ _)
  ((repeat apply WP.seq); apply WP.lreg; refine nA rfl rfl ?_; refine ALK.nil ?_; try show WP _ _ _ _ _ _)
  ((repeat apply WP.seq); apply WP.lreg; refine nA rfl rfl ?_; refine ALK.nil ?_; try show WP _ _ _ _ _ _)
  ((repeat apply WP.seq); apply WP.lreg; refine nM rfl rfl ?_; refine ALK.n OpN.cm rfl ?_; refine ALK.nil ?_; try show WP _ _ _ _ _ _)
  ((repeat apply WP.seq); refine WP.qshift ⟨[(0, .im (intsV s)), (1, .im (txsV l)), (2, .im (intsV ps)), (7, .im (intsV (runL s l ps))), (8, .im (ressV (runV s l ps))), (9, .im (IV.int (runE s l ps))), (10, .im (IV.int (runE s l ps))), (11, .im (intsV (runL s l ps))), (12, .im (ressV (runV s l ps)))], [], 0⟩ (WP.cond rfl (fun h => ?_) (fun h => ?_)) ?_)
  · have h0 : runE s l ps = 0 := by simpa using h
    have hr1 : runL s l ps = (runTo s l ps).1 := by unfold runL; rw [if_pos h0]
    have hr2 : runV s l ps = (runTo s l ps).2 := by unfold runV; rw [if_pos h0]
    ((repeat apply WP.seq); apply WP.lreg; refine nM rfl rfl ?_; refine nM rfl rfl ?_; refine nM rfl rfl ?_; refine ALK.n (opn_call (PicksRun_fn s l ps hbt h0) (Evs.cons Ev.a (Evs.cons Ev.a (Evs.cons Ev.a Evs.nil)))) rfl ?_; refine nM rfl rfl ?_; refine nX rfl rfl rfl ?_; refine nX rfl rfl rfl ?_; refine nA rfl rfl ?_; refine nA rfl rfl ?_; refine ALK.nil ?_; try show WP _ _ _ _ _ _)
    rw [hr1, hr2]
    show Shift _ _ _ _
    exact (Shift.sub [] rfl SubE.a SubH.nil)
  · have hne : ¬ runE s l ps = 0 := by simpa using h
    have hr1 : runL s l ps = [] := by unfold runL; rw [if_neg hne]
    have hr2 : runV s l ps = [] := by unfold runV; rw [if_neg hne]
    rw [hr1, hr2]
    refine WP.skip ?_; show Shift _ _ _ _
    exact (Shift.sub [] rfl SubE.a SubH.nil)
  ((repeat apply WP.seq); apply WP.lreg; refine ALK.n (opn_call runBegun_fn Evs.nil) rfl ?_; refine nM rfl rfl ?_; refine gM rfl rfl rfl rfl ?_; refine gM rfl rfl rfl rfl ?_; refine gM rfl rfl rfl rfl ?_; refine ALK.g (fun hb => opn_call (run_Check_fn s l ps hbt) (Evs.cons Ev.a (Evs.cons Ev.a (Evs.cons Ev.a Evs.nil)))) rfl rfl rfl ?_; refine gM rfl rfl rfl rfl ?_; (first | refine ALK.g (fun hb => opn_cmp (eC rfl hb) (eC rfl hb) rfl) rfl rfl rfl ?_ | refine ALK.g (fun hb => opn_cmpB rfl (eC rfl hb) (eC rfl hb) rfl) rfl rfl rfl ?_); refine ALK.n (opn_pick_and (eB rfl) rfl (fun hb2 => by first | exact hb2 | (rw [hb, hb2]; rfl) | simp_all [gd]) rfl) rfl ?_; refine nM rfl rfl ?_; refine gM rfl rfl rfl rfl ?_; refine gM rfl rfl rfl rfl ?_; (first | refine ALK.g (fun hb => opn_cmp (eC rfl hb) (eC rfl hb) rfl) rfl rfl rfl ?_ | refine ALK.g (fun hb => opn_cmpB rfl (eC rfl hb) (eC rfl hb) rfl) rfl rfl rfl ?_); refine ALK.n (opn_pick_and (eB rfl) rfl (fun hb2 => by first | exact hb2 | (rw [hb, hb2]; rfl) | simp_all [gd]) rfl) rfl ?_; refine nM rfl rfl ?_; refine gM rfl rfl rfl rfl ?_; refine gM rfl rfl rfl rfl ?_; refine ALK.g (fun hb => opn_call (SameInts_fn _ _) (Evs.cons Ev.a (Evs.cons Ev.a Evs.nil))) rfl rfl rfl ?_; refine ALK.n (opn_pick_and (eB rfl) rfl (fun hb2 => by first | exact hb2 | (rw [hb, hb2]; rfl) | simp_all [gd]) rfl) rfl ?_; refine nM rfl rfl ?_; refine gM rfl rfl rfl rfl ?_; refine gM rfl rfl rfl rfl ?_; refine ALK.g (fun hb => opn_call (SameResults_fn _ _) (Evs.cons Ev.a (Evs.cons Ev.a Evs.nil))) rfl rfl rfl ?_; refine ALK.n (opn_pick_and (eB rfl) rfl (fun hb2 => by first | exact hb2 | (rw [hb, hb2]; rfl) | simp_all [gd]) rfl) rfl ?_; refine nA rfl rfl ?_; refine ALK.nil ?_; try show WP _ _ _ _ _ _)
  refine WP.ret ?_
  refine RetOk.one Try.results3 (ResV.tmp rfl (ImOf.im (ILe.bool ?_)))
  simp

set_option maxRecDepth 100000 in
theorem RunSame_fn (s : List Int) (l : List Txn) (ps : List Int) (hb : TxsB l) : Fn (Cfg.mk Try.prog (ttAt ttl) ttl_ok.ok mixd) 4 [intsV s, txsV l, intsV ps] (IV.bool true) := by
  refine Fn.of_wp _ Try.func4 rfl (by kernel_rfl) Try.ntmps4 rfl ?_
  intro F hD hG
  ((repeat apply WP.seq); apply WP.lreg; refine nA rfl rfl ?_; refine ALK.nil ?_; try show WP _ _ _ _ _ _)
  ((repeat apply WP.seq); apply WP.lreg; refine nM rfl rfl ?_; refine nM rfl rfl ?_; refine nM rfl rfl ?_; refine ALK.n (opn_call (run_Run_fn s l ps hb) (Evs.cons Ev.a (Evs.cons Ev.a (Evs.cons Ev.a Evs.nil)))) rfl ?_; refine nM rfl rfl ?_; refine nX rfl rfl rfl ?_; refine nX rfl rfl rfl ?_; refine nX rfl rfl rfl ?_; refine nA rfl rfl ?_; refine nA rfl rfl ?_; refine nA rfl rfl ?_; refine ALK.nil ?_; try show WP _ _ _ _ _ _)
  ((repeat apply WP.seq); apply WP.lreg; refine nM rfl rfl ?_; refine ALK.n OpN.cm rfl ?_; refine ALK.nil ?_; try show WP _ _ _ _ _ _)
  ((repeat apply WP.seq); refine WP.cond rfl (fun h => ?_) (fun h => ?_))
  · ((repeat apply WP.seq); apply WP.lreg; refine ALK.n (opn_call runBegun_fn Evs.nil) rfl ?_; refine nA rfl rfl ?_; refine ALK.nil ?_; try show WP _ _ _ _ _ _)
    ((repeat apply WP.seq); refine WP.ret ?_; first | exact RetOk.one Try.results4 ResV.a | exact RetOk.tup Try.results4 rfl ResVs.a)
  (refine WP.skip ?_; show WP _ _ _ _ _ _)
  have h0 : runE s l ps = 0 := by simpa using h
  obtain ⟨h8, hc, _, _⟩ := runE_zero h0
  obtain ⟨g1, g2⟩ := run_serial h0
  have hse : serE s l = 0 := serE_of h8 hc
  have hr1 : runL s l ps = serL s l := by unfold runL; rw [if_pos h0, g1, serL_of hse]
  have hr2 : runV s l ps = serV s l := by unfold runV; rw [if_pos h0, g2, serV_of hse]
  ((repeat apply WP.seq); apply WP.lreg; refine nM rfl rfl ?_; refine nM rfl rfl ?_; refine ALK.n (opn_call (store_Serial_fn s l hb) (Evs.cons Ev.a (Evs.cons Ev.a Evs.nil))) rfl ?_; refine nM rfl rfl ?_; refine nX rfl rfl rfl ?_; refine nX rfl rfl rfl ?_; refine nX rfl rfl rfl ?_; refine nA rfl rfl ?_; refine nA rfl rfl ?_; refine nA rfl rfl ?_; refine ALK.nil ?_; try show WP _ _ _ _ _ _)
  ((repeat apply WP.seq); apply WP.lreg; refine ALK.n (opn_call runBegun_fn Evs.nil) rfl ?_; refine nM rfl rfl ?_; refine gM rfl rfl rfl rfl ?_; (first | refine ALK.g (fun hb => opn_cmp (eC rfl hb) (eB rfl) rfl) rfl rfl rfl ?_ | refine ALK.g (fun hb => opn_cmpB rfl (eC rfl hb) (eB rfl) rfl) rfl rfl rfl ?_); refine ALK.n (opn_pick_and (eB rfl) rfl (fun hb2 => by first | exact hb2 | (rw [hb, hb2]; rfl) | simp_all [gd]) rfl) rfl ?_; refine nM rfl rfl ?_; refine gM rfl rfl rfl rfl ?_; refine gM rfl rfl rfl rfl ?_; refine ALK.g (fun hb => opn_call (SameInts_fn _ _) (Evs.cons Ev.a (Evs.cons Ev.a Evs.nil))) rfl rfl rfl ?_; refine ALK.n (opn_pick_and (eB rfl) rfl (fun hb2 => by first | exact hb2 | (rw [hb, hb2]; rfl) | simp_all [gd]) rfl) rfl ?_; refine nM rfl rfl ?_; refine gM rfl rfl rfl rfl ?_; refine gM rfl rfl rfl rfl ?_; refine ALK.g (fun hb => opn_call (SameResults_fn _ _) (Evs.cons Ev.a (Evs.cons Ev.a Evs.nil))) rfl rfl rfl ?_; refine ALK.n (opn_pick_and (eB rfl) rfl (fun hb2 => by first | exact hb2 | (rw [hb, hb2]; rfl) | simp_all [gd]) rfl) rfl ?_; refine nA rfl rfl ?_; refine ALK.nil ?_; try show WP _ _ _ _ _ _)
  refine WP.ret ?_
  refine RetOk.one Try.results4 (ResV.tmp rfl (ImOf.im (ILe.bool ?_)))
  simp [hr1, hr2, hse]
end Go.Proofs.Ytjgmbgfcffnanad
