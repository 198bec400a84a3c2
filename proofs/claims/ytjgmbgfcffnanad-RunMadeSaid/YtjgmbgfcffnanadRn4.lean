/- The law RunMade. -/
import Derived.Test.YtjgmbgfcffnanadRn3
namespace Go.Proofs.Ytjgmbgfcffnanad
open Go.RowKit

theorem ready_some {l : List Txn} {d : List Bool} (hd : d.length = l.length) (h : d.count true < l.length) : readyTo l d l.length ≠ [] := fun e => by
  have h1 := (all_done_iff hd).2 e
  have : d.count true = d.length := List.count_eq_length.2 fun b hb => by
    obtain ⟨k, hk, hk2⟩ := List.mem_iff_getElem.1 hb
    have h2 := h1 k (by omega)
    rw [List.getElem?_eq_getElem hk, hk2] at h2
    injection h2 with h2
    exact h2.symm
  omega
theorem qE_of {l : List Txn} {d : List Bool} (hc : checkTxns l = 0) (hd : d.length = l.length) : qE l d = 0 := by unfold qE; rw [if_pos hc, if_pos hd]

set_option maxRecDepth 100000 in
set_option maxHeartbeats 1000000 in
theorem RunMade_fn (s : List Int) (l : List Txn) (ch : List Int) (hb : TxsB l) (hch : ∀ x ∈ ch, I64 x) : Fn (Cfg.mk Try.prog (ttAt ttl) ttl_ok.ok mixd) 5 [intsV s, txsV l, intsV ch] (IV.bool true) := by
  refine Fn.of_wp _ Try.func5 rfl (by kernel_rfl) Try.ntmps5 rfl ?_
  intro F hD hG
  refine WP.len 2 rfl (fun hl2 => ?_)
  ((repeat apply WP.seq); apply WP.lreg; refine nA rfl rfl ?_; refine ALK.nil ?_; try show WP _ _ _ _ _ _)
  ((repeat apply WP.seq); apply WP.lreg; refine nM rfl rfl ?_; refine nM rfl rfl ?_; refine ALK.n (opn_call (store_Serial_fn s l hb) (Evs.cons Ev.a (Evs.cons Ev.a Evs.nil))) rfl ?_; refine nM rfl rfl ?_; refine nX rfl rfl rfl ?_; refine nX rfl rfl rfl ?_; refine nX rfl rfl rfl ?_; refine nA rfl rfl ?_; refine nA rfl rfl ?_; refine nA rfl rfl ?_; refine ALK.nil ?_; try show WP _ _ _ _ _ _)
  ((repeat apply WP.seq); apply WP.lreg; refine nM rfl rfl ?_; refine ALK.n OpN.cm rfl ?_; refine ALK.nil ?_; try show WP _ _ _ _ _ _)
  ((repeat apply WP.seq); refine WP.cond rfl (fun h => ?_) (fun h => ?_))
  · ((repeat apply WP.seq); apply WP.lreg; refine ALK.n (opn_call runBegun_fn Evs.nil) rfl ?_; refine nA rfl rfl ?_; refine ALK.nil ?_; try show WP _ _ _ _ _ _)
    ((repeat apply WP.seq); refine WP.ret ?_; first | exact RetOk.one Try.results5 ResV.a | exact RetOk.tup Try.results5 rfl ResVs.a)
  (refine WP.skip ?_; show WP _ _ _ _ _ _)
  have h0 : serE s l = 0 := by simpa using h
  obtain ⟨h8, hc⟩ := serE_zero h0
  obtain ⟨hlen8, hall⟩ := checkTxns_zero hc
  ((repeat apply WP.seq); apply WP.lreg; refine nM rfl rfl ?_; refine ALK.n OpN.ln rfl ?_; refine ALK.a (opa_make (n := l.length) (b := 1) (enc := cB) false rfl rfl (fun _ => rfl) rfl rfl rfl (eB rfl) (eB rfl) rfl (by omega) (by omega)) rfl ?_; refine nA rfl rfl ?_; refine ALK.nil ?_; try show WP _ _ _ _ _ _)
  ((repeat apply WP.seq); apply WP.lreg; refine nA rfl rfl ?_; refine ALK.nil ?_; try show WP _ _ _ _ _ _)
  refine WP.shift (Shift.row0 11 3 1 cI (fun _ => rfl) rfl) ?_
  ((repeat apply WP.seq); apply WP.lreg; refine nA rfl rfl ?_; refine ALK.nil ?_; try show WP _ _ _ _ _ _)
  ((repeat apply WP.seq); apply WP.block)
  refine WP.loop (fun c : Nat × List Bool × List Int => ⟨[(12, .im (IV.int c.1)), (0, .im (intsV s)), (1, .im (txsV l)), (2, .im (intsV ch)), (7, .im (intsV (serL s l))), (8, .im (ressV (serV s l))), (10, .row 0 l.length), (11, .row 1 c.1)], [(0, .row 4 1 cB c.2.1), (1, .row 3 1 cI c.2.2)], 2⟩) (fun c => c.1 ≤ l.length ∧ c.2.1.length = l.length ∧ c.2.1.count true = c.1 ∧ c.2.2.length = c.1 ∧ ∀ r, pickE l (none8 l) (c.2.2 ++ r) = pickE l c.2.1 r) (fun c => l.length - c.1) (0, none8 l, []) ⟨Nat.zero_le _, by simp [none8], count_none l, rfl, fun r => rfl⟩ (Shift.sub [(0, 0), (1, 1)] rfl SubE.a (SubH.cons rfl rfl (ObLe.row rfl) (SubH.cons rfl rfl (ObLe.row rfl) SubH.nil))) ?_
  rintro ⟨k, d, ps⟩ ⟨hk, hd, hct, hpl, hpk⟩
  simp only at hk hd hct hpl hpk
  ((repeat apply WP.seq); apply WP.lreg; refine nM rfl rfl ?_; refine nM rfl rfl ?_; refine ALK.n OpN.ln rfl ?_; refine ALK.n OpN.cm rfl ?_; refine nM rfl rfl ?_; refine gM rfl rfl rfl rfl ?_; (first | refine ALK.g (fun hb => opn_cmp (eC rfl hb) (eB rfl) rfl) rfl rfl rfl ?_ | refine ALK.g (fun hb => opn_cmpB rfl (eC rfl hb) (eB rfl) rfl) rfl rfl rfl ?_); refine ALK.n (opn_pick_and (eB rfl) rfl (fun hb2 => by first | exact hb2 | (rw [hb, hb2]; rfl) | simp_all [gd]) rfl) rfl ?_; refine ALK.nil ?_; try show WP _ _ _ _ _ _)
  ((repeat apply WP.seq); refine WP.cond rfl (fun h => ?_) (fun h => ?_))
  · (refine WP.skip ?_; show WP _ _ _ _ _ _)
    have hlt : k < l.length := by simp at h; omega
    have hq0 := qE_of hc hd
    have hne := ready_some hd (by omega)
    have hre : reL l d = readyTo l d l.length := by unfold reL; rw [if_pos hq0]
    obtain ⟨rd, hrd⟩ : ∃ rd, rd = readyTo l d l.length := ⟨_, rfl⟩
    rw [← hrd] at hne hre
    have hpos : (0 : Int) < rd.length := by have := List.length_pos_iff.2 hne; omega
    ((repeat apply WP.seq); apply WP.block)
    ((repeat apply WP.seq); apply WP.lreg; refine nM rfl rfl ?_; refine nM rfl rfl ?_; refine ALK.r (opr_callLend (Ready_new l d hb) (Lent.im (eB rfl) (Lent.row (eB rfl) rfl Lent.nil))) rfl ?_; refine nM rfl rfl ?_; refine nX rfl rfl rfl ?_; refine nX rfl rfl rfl ?_; refine nA rfl rfl ?_; refine nA rfl rfl ?_; refine ALK.nil ?_; try show WP _ _ _ _ _ _)
    rw [hre, hq0]
    ((repeat apply WP.seq); apply WP.lreg; refine nM rfl rfl ?_; refine ALK.n OpN.cm rfl ?_; refine nM rfl rfl ?_; refine gM rfl rfl rfl rfl ?_; (first | refine ALK.g (fun hb => opn_len rfl (eC rfl hb)) rfl rfl rfl ?_ | refine ALK.g (fun hb => opn_lenRow rfl (eC rfl hb)) rfl rfl rfl ?_ | refine ALK.g (fun hb => opn_lenNil rfl (eC rfl hb)) rfl rfl rfl ?_); (first | refine ALK.g (fun hb => opn_cmp (eC rfl hb) (eB rfl) rfl) rfl rfl rfl ?_ | refine ALK.g (fun hb => opn_cmpB rfl (eC rfl hb) (eB rfl) rfl) rfl rfl rfl ?_); refine ALK.n (opn_pick_or (eB rfl) rfl rfl (fun hb2 => by first | (rw [hb2]; rfl) | (rw [hb, hb2]; rfl) | simp_all [gd])) rfl ?_; refine ALK.nil ?_; try show WP _ _ _ _ _ _)
    ((repeat apply WP.seq); refine WP.cond rfl (fun h => ?_) (fun h => ?_))
    · exfalso
      have : ¬ (rd.length : Int) = 0 := by omega
      simp [this] at h
      exact hne h
    (refine WP.skip ?_; show WP _ _ _ _ _ _)
    ((repeat apply WP.seq); apply WP.lreg; refine nA rfl rfl ?_; refine ALK.nil ?_; try show WP _ _ _ _ _ _)
    ((repeat apply WP.seq); apply WP.lreg; refine nM rfl rfl ?_; refine nM rfl rfl ?_; refine ALK.n OpN.ln rfl ?_; refine ALK.n OpN.cm rfl ?_; refine ALK.nil ?_; try show WP _ _ _ _ _ _)
    obtain ⟨ix, hix⟩ : ∃ ix : Int, ix = match ch[k]? with
      | some c => chooseN c rd.length
      | none => 0 := ⟨_, rfl⟩
    ((repeat apply WP.seq); refine WP.qshift ⟨[(15, .im (IV.int ix)), (12, .im (IV.int k)), (0, .im (intsV s)), (1, .im (txsV l)), (2, .im (intsV ch)), (7, .im (intsV (serL s l))), (8, .im (ressV (serV s l))), (13, .im (intsV rd)), (10, .row 0 l.length), (11, .row 1 k)], [(0, .row 4 1 cB d), (1, .row 3 1 cI ps)], 2⟩ (WP.cond rfl (fun h => ?_) (fun h => ?_)) ?_)
    · have hkc : k < ch.length := by simpa using h
      obtain ⟨c, hcc⟩ := get_at hkc
      ((repeat apply WP.seq); apply WP.lreg; refine nM rfl rfl ?_; refine nM rfl rfl ?_; refine ALK.n OpN.ix rfl ?_; (first | refine ALK.n (opn_load rfl (eB rfl) rfl) rfl ?_ | refine ALK.r OpR.ld rfl ?_); refine nM rfl rfl ?_; refine ALK.n OpN.ln rfl ?_; refine ALK.n (opn_call (choose_fn c rd.length (hch c (List.mem_of_getElem? hcc)) hpos) (Evs.cons Ev.a (Evs.cons Ev.a Evs.nil))) rfl ?_; refine nA rfl rfl ?_; refine ALK.nil ?_; try show WP _ _ _ _ _ _)
      have hi : chooseN c rd.length = ix := by rw [hix, hcc]
      rw [hi]
      show Shift _ _ _ _
      exact Shift.sub [(0, 0), (1, 1)] rfl SubE.a (SubH.cons rfl rfl (ObLe.row rfl) (SubH.cons rfl rfl (ObLe.row rfl) SubH.nil))
    · have hkc : ¬ k < ch.length := by simpa using h
      have hi : (0 : Int) = ix := by rw [hix, List.getElem?_eq_none (by omega)]
      refine WP.skip ?_; show Shift _ _ _ _
      exact Shift.sub [(0, 0), (1, 1)] rfl SubE.a (SubH.cons rfl rfl (ObLe.row rfl) (SubH.cons rfl rfl (ObLe.row rfl) SubH.nil))
    show WP _ _ _ _ _ _
    have hix0 : 0 ≤ ix ∧ ix < rd.length := by
      rw [hix]
      cases ch[k]? with
      | some c => exact chooseN_in hpos
      | none => exact ⟨Int.le_refl _, hpos⟩
    obtain ⟨hix1, hix2⟩ := hix0
    obtain ⟨p, hp⟩ := get_at (xs := rd) (k := ix.toNat) (by omega)
    obtain ⟨n, hn, hpn, hrb⟩ := readyTo_mem.1 (by rw [← hrd]; exact List.mem_of_getElem? hp)
    have hp0 : 0 ≤ p := by omega
    have hpl2 : p < l.length := by omega
    have hpn2 : p.toNat = n := by omega
    have hpd : p.toNat < d.length := by omega
    obtain ⟨t, ht⟩ := get_at (xs := l) (k := n) (by omega)
    obtain ⟨b, hbt⟩ := get_at (xs := d) (k := n) (by omega)
    have hbf := ((readyB_iff hd ht hbt).1 hrb).1
    rw [hbf, ← hpn2] at hbt
    rw [← hpn2] at hrb
    have hgb : d.getD p.toNat false = false := by rw [List.getD_eq_getElem?_getD, hbt]; rfl
    have hps := pickE_snoc hpk hp0 hpl2 hgb hrb
    have hcs := count_set hbt
    ((repeat apply WP.seq); apply WP.lreg; refine nM rfl rfl ?_; refine nM rfl rfl ?_; refine ALK.n OpN.ix rfl ?_; (first | refine ALK.n (opn_load rfl (eB rfl) rfl) rfl ?_ | refine ALK.r OpR.ld rfl ?_); refine ALK.n OpN.cm rfl ?_; refine nM rfl rfl ?_; refine gM rfl rfl rfl rfl ?_; refine gM rfl rfl rfl rfl ?_; (first | refine ALK.g (fun hb => opn_index rfl (eC rfl hb) (eC rfl hb) (by omega) (by assumption)) rfl rfl rfl ?_ | refine ALK.g (fun hb => opn_indexRow1 rfl (eC rfl hb) (eC rfl hb) (by omega) (by omega)) rfl rfl rfl ?_ | refine ALK.g (fun hb => opn_indexRow rfl (eC rfl hb) (eC rfl hb) (by omega) (by omega)) rfl rfl rfl ?_ | refine ALK.g (fun hb => opn_indexArr rfl (eC rfl hb) (eC rfl hb) (by omega) (by omega)) rfl rfl rfl ?_ | refine ALK.g (fun hb => opn_indexArrI rfl (eC rfl hb) (eC rfl hb) (by omega) (by omega)) rfl rfl rfl ?_); (first | refine ALK.g (fun hb => opn_load rfl (eC rfl hb) rfl) rfl rfl rfl ?_ | refine ALK.rg (fun hb => opr_load rfl (eC rfl hb) rfl rfl) rfl rfl rfl ?_ | refine ALK.rg (fun hb => opr_loadRow rfl rfl (eC rfl hb) rfl (by assumption) rfl) rfl rfl rfl ?_ | refine ALK.rg (fun hb => opr_loadK0 rfl (eC rfl hb) rfl (by assumption) rfl) rfl rfl rfl ?_ | refine ALK.rg (fun hb => opr_loadK rfl (eC rfl hb) rfl (by assumption) rfl) rfl rfl rfl ?_); refine gM rfl rfl rfl rfl ?_; (first | refine ALK.g (fun hb => opn_len rfl (eC rfl hb)) rfl rfl rfl ?_ | refine ALK.g (fun hb => opn_lenRow rfl (eC rfl hb)) rfl rfl rfl ?_ | refine ALK.g (fun hb => opn_lenNil rfl (eC rfl hb)) rfl rfl rfl ?_); (first | refine ALK.g (fun hb => opn_cmp (eC rfl hb) (eC rfl hb) rfl) rfl rfl rfl ?_ | refine ALK.g (fun hb => opn_cmpB rfl (eC rfl hb) (eC rfl hb) rfl) rfl rfl rfl ?_); refine ALK.n (opn_pick_or (eB rfl) rfl rfl (fun hb2 => by first | (rw [hb2]; rfl) | (rw [hb, hb2]; rfl) | simp_all [gd])) rfl ?_; refine ALK.nil ?_; try show WP _ _ _ _ _ _)
    ((repeat apply WP.seq); refine WP.cond rfl (fun h => ?_) (fun h => ?_))
    · exfalso
      simp at h; omega
    (refine WP.skip ?_; show WP _ _ _ _ _ _)
    ((repeat apply WP.seq); apply WP.lreg; refine nM rfl rfl ?_; refine nM rfl rfl ?_; refine nM rfl rfl ?_; refine ALK.n OpN.ix rfl ?_; (first | refine ALK.n (opn_load rfl (eB rfl) rfl) rfl ?_ | refine ALK.r OpR.ld rfl ?_); refine ALK.n OpN.ix rfl ?_; (first | refine ALK.e (ope_store rfl (eB rfl) (eB rfl) Cs.a rfl rfl rfl) rfl rfl ?_ | refine ALK.e (ope_storeRow rfl rfl (eB rfl) (eB rfl) (oc_val rfl) rfl rfl (by assumption)) rfl rfl ?_); refine ALK.nil ?_; try show WP _ _ _ _ _ _)
    ((repeat apply WP.seq); apply WP.lreg; refine nM rfl rfl ?_; refine nM rfl rfl ?_; refine nM rfl rfl ?_; refine ALK.n OpN.ix rfl ?_; (first | refine ALK.n (opn_load rfl (eB rfl) rfl) rfl ?_ | refine ALK.r OpR.ld rfl ?_); refine ALK.n (opn_slit rfl rfl rfl rfl rfl rfl (Pc rfl (eB rfl) Cs.a rfl rfl Parts.nil) rfl) rfl ?_; refine ALK.e (ope_append (b := 8) [p] rfl rfl rfl rfl rfl (eB rfl) (eB rfl) rfl rfl (by simp only [List.length_cons, List.length_nil]; omega) rfl) rfl rfl ?_; refine nA rfl rfl ?_; refine ALK.nil ?_; try show WP _ _ _ _ _ _)
    ((repeat apply WP.seq); apply WP.lreg; refine nM rfl rfl ?_; refine ALK.n OpN.ar rfl ?_; refine nA rfl rfl ?_; refine ALK.nil ?_; try show WP _ _ _ _ _ _)
    have hl1 : ps.length + [p].length = k + 1 := by simp; omega
    show ∃ _, _ ∧ _ ∧ _
    exact ⟨(k + 1, d.set p.toNat true, ps ++ [p]), ⟨by simp only; omega, by simpa using hd, by simp only; omega, by simp only; rw [List.length_append]; exact hl1, hps⟩, by simp only; omega, Shift.sub [(0, 0), (1, 2)] rfl SubE.a (SubH.cons rfl rfl (ObLe.row rfl) (SubH.cons rfl rfl (ObLe.row rfl) SubH.nil))⟩
  · ((repeat apply WP.seq); refine WP.exit ?_; show WP _ _ _ _ _ _)
    have hkl : k = l.length := by simp at h; omega
    have hpe : pickE l (none8 l) ps = 0 := by
      have := hpk []
      rw [List.append_nil] at this
      rw [this]
      show (if d.any (fun y => false == y) then (8 : Int) else 0) = 0
      rw [count_all (by omega)]; rfl
    have hrE : runE s l ps = 0 := runE_of h8 hc (by omega) hpe
    obtain ⟨g1, g2⟩ := run_serial hrE
    have hr1 : runL s l ps = serL s l := by unfold runL; rw [if_pos hrE, g1, serL_of h0]
    have hr2 : runV s l ps = serV s l := by unfold runV; rw [if_pos hrE, g2, serV_of h0]
    refine WP.shift (Shift.frzRow 11 rfl rfl) ?_
    ((repeat apply WP.seq); apply WP.lreg; refine nM rfl rfl ?_; refine nM rfl rfl ?_; refine nM rfl rfl ?_; refine ALK.n (opn_call (run_Run_fn s l ps hb) (Evs.cons Ev.a (Evs.cons Ev.a (Evs.cons Ev.a Evs.nil)))) rfl ?_; refine nM rfl rfl ?_; refine nX rfl rfl rfl ?_; refine nX rfl rfl rfl ?_; refine nX rfl rfl rfl ?_; refine nA rfl rfl ?_; refine nA rfl rfl ?_; refine nA rfl rfl ?_; refine ALK.nil ?_; try show WP _ _ _ _ _ _)
    rw [hr1, hr2, hrE]
    ((repeat apply WP.seq); apply WP.lreg; refine ALK.n (opn_call runBegun_fn Evs.nil) rfl ?_; refine nM rfl rfl ?_; refine gM rfl rfl rfl rfl ?_; (first | refine ALK.g (fun hb => opn_cmp (eC rfl hb) (eB rfl) rfl) rfl rfl rfl ?_ | refine ALK.g (fun hb => opn_cmpB rfl (eC rfl hb) (eB rfl) rfl) rfl rfl rfl ?_); refine ALK.n (opn_pick_and (eB rfl) rfl (fun hb2 => by first | exact hb2 | (rw [hb, hb2]; rfl) | simp_all [gd]) rfl) rfl ?_; refine nM rfl rfl ?_; refine gM rfl rfl rfl rfl ?_; refine gM rfl rfl rfl rfl ?_; refine ALK.g (fun hb => opn_call (SameInts_fn _ _) (Evs.cons Ev.a (Evs.cons Ev.a Evs.nil))) rfl rfl rfl ?_; refine ALK.n (opn_pick_and (eB rfl) rfl (fun hb2 => by first | exact hb2 | (rw [hb, hb2]; rfl) | simp_all [gd]) rfl) rfl ?_; refine nM rfl rfl ?_; refine gM rfl rfl rfl rfl ?_; refine gM rfl rfl rfl rfl ?_; refine ALK.g (fun hb => opn_call (SameResults_fn _ _) (Evs.cons Ev.a (Evs.cons Ev.a Evs.nil))) rfl rfl rfl ?_; refine ALK.n (opn_pick_and (eB rfl) rfl (fun hb2 => by first | exact hb2 | (rw [hb, hb2]; rfl) | simp_all [gd]) rfl) rfl ?_; refine nA rfl rfl ?_; refine ALK.nil ?_; try show WP _ _ _ _ _ _)
    refine WP.ret ?_
    refine RetOk.one Try.results5 (ResV.tmp rfl (ImOf.im (ILe.bool ?_)))
    simp
end Go.Proofs.Ytjgmbgfcffnanad
