/- The law RestStates: what is not done, and the whole. -/
import Derived.Test.YtjgmbgfcffnanacSw10
namespace Go.Proofs.Ytjgmbgfcffnanac
open Go.RowKit

abbrev rsH2 (s : StT) (m1 m2 m3 m4 : Nat) (B : StT) : List Ent := (0, .blk 29 [.im (intsV s.store), .im (bbV s.rd), .im (bbV s.wr), .im (iiV s.vals)]) :: (99, .blk 29 [.im (intsV []), .im (bbV []), .im (bbV []), .im (iiV []), .row 50 m1, .row 51 m2, .row 67 m3, .row 83 m4]) :: ownH B 50 51 67 83
set_option maxRecDepth 100000 in
set_option maxHeartbeats 8000000 in
theorem RestStates_no (p : Plan) (s : StT) (x : StepT) (hB : TxsB p.txns) (v : Valid p s) (hd : ¬ doE p s x = 0) : Fn (Cfg.mk Try.prog (ttAt ttl) ttl_ok.ok mixd) 4 [planV p, stV s, stpV x] (IV.bool true) := by
  have h0 := valid_iff.2 v
  have hsm := v.small
  have hb0 : beginE p s.store = 0 := by unfold beginE; rw [if_pos v.plan, if_pos v.store]
  refine Fn.of_wp _ Try.func4 rfl (by kernel_rfl) Try.ntmps4 rfl ?_
  intro F hD hG
  ((repeat apply WP.seq); apply WP.lreg; refine ALK.n (opn_box (eB rfl) Cs.a rfl) rfl ?_; refine ALK.n (opn_box (eB rfl) Cs.a rfl) rfl ?_; refine ALK.n (opn_box (eB rfl) Cs.a rfl) rfl ?_; refine nA rfl rfl ?_; refine ALK.nil ?_; try show WP _ _ _ _ _ _)
  ((repeat apply WP.seq); apply WP.lreg; (first | refine ALK.n (opn_load rfl (eB rfl) rfl) rfl ?_ | refine ALK.r OpR.ld rfl ?_); (first | refine ALK.n (opn_load rfl (eB rfl) rfl) rfl ?_ | refine ALK.r OpR.ld rfl ?_); refine ALK.n (opn_call (R_CheckState_fn p s hB) (Evs.cons Ev.a (Evs.cons Ev.a Evs.nil))) rfl ?_; refine ALK.n OpN.cm rfl ?_; refine ALK.nil ?_; try show WP _ _ _ _ _ _)
  ((repeat apply WP.seq); refine WP.cond rfl (fun h => ?_) (fun h => ?_))
  · simp [h0] at h
  (refine WP.skip ?_; show WP _ _ _ _ _ _)
  clear h
  ((repeat apply WP.seq); apply WP.lreg; (first | refine ALK.n (opn_load rfl (eB rfl) rfl) rfl ?_ | refine ALK.r OpR.ld rfl ?_); refine ALK.n (opn_call (OwnState_fn s hsm) (Evs.cons Ev.a Evs.nil)) rfl ?_; refine ALK.a (opa_alloc rfl rfl) rfl ?_; (first | refine ALK.e (ope_store rfl (eB rfl) (eB rfl) Cs.a rfl rfl rfl) rfl rfl ?_ | refine ALK.e (ope_storeRow rfl rfl (eB rfl) (eB rfl) (oc_val rfl) rfl rfl (by assumption)) rfl rfl ?_); refine ALK.nil ?_; try show WP _ _ _ _ _ _)
  ((repeat apply WP.seq); apply WP.lreg; (first | refine ALK.n (opn_load rfl (eB rfl) rfl) rfl ?_ | refine ALK.r OpR.ld rfl ?_); (first | refine ALK.n (opn_load rfl (eB rfl) rfl) rfl ?_ | refine ALK.r OpR.ld rfl ?_); (first | refine ALK.n (opn_load rfl (eB rfl) rfl) rfl ?_ | refine ALK.r OpR.ld rfl ?_); refine ALK.n (opn_call (Do_fn p s x hB) (Evs.cons Ev.a (Evs.cons Ev.a (Evs.cons Ev.a Evs.nil)))) rfl ?_; refine nM rfl rfl ?_; refine nX rfl rfl rfl ?_; refine nX rfl rfl rfl ?_; refine ALK.a (opa_alloc rfl rfl) rfl ?_; (first | refine ALK.e (ope_store rfl (eB rfl) (eB rfl) Cs.a rfl rfl rfl) rfl rfl ?_ | refine ALK.e (ope_storeRow rfl rfl (eB rfl) (eB rfl) (oc_val rfl) rfl rfl (by assumption)) rfl rfl ?_); refine nA rfl rfl ?_; refine ALK.nil ?_; try show WP _ _ _ _ _ _)
  ((repeat apply WP.seq); apply WP.lreg; (first | refine ALK.n (opn_load rfl (eB rfl) rfl) rfl ?_ | refine ALK.r OpR.ld rfl ?_); (first | refine ALK.n (opn_field (o := 0) rfl (eB rfl)) rfl ?_ | refine ALK.n (opn_fieldOff (o := 0) rfl (eB rfl)) rfl ?_); (first | refine ALK.n (opn_load rfl (eB rfl) rfl) rfl ?_ | refine ALK.r OpR.ld rfl ?_); refine ALK.e (ope_callE [] (Begin_new p s.store hB hb0) EvsS.a rfl rfl rfl HIn.a) rfl rfl ?_; refine nM rfl rfl ?_; refine ALK.n (opn_extractS (eB rfl) rfl) rfl ?_; refine ALK.n (opn_extractS (eB rfl) rfl) rfl ?_; refine ALK.a (opa_alloc rfl rfl) rfl ?_; (first | refine ALK.e (ope_store rfl (eB rfl) (eB rfl) Cs.a rfl rfl rfl) rfl rfl ?_ | refine ALK.e (ope_storeRow rfl rfl (eB rfl) (eB rfl) (oc_val rfl) rfl rfl (by assumption)) rfl rfl ?_); refine nA rfl rfl ?_; refine ALK.nil ?_; try show WP _ _ _ _ _ _)
  ((repeat apply WP.seq); apply WP.lreg; (first | refine ALK.n (opn_load rfl (eB rfl) rfl) rfl ?_ | refine ALK.r OpR.ld rfl ?_); (first | refine ALK.n (opn_load rfl (eB rfl) rfl) rfl ?_ | refine ALK.r OpR.ld rfl ?_); refine ALK.e (ope_slitBlk rfl rfl rfl rfl rfl rfl (Pc rfl (eB rfl) Cs.a rfl rfl (Pc rfl (eB rfl) Cs.a rfl rfl Parts.nil))) rfl rfl ?_; refine nA rfl rfl ?_; refine ALK.nil ?_; try show WP _ _ _ _ _ _)
  have hst0 : doS p s x = st0 := by unfold doS; rw [if_neg hd]
  obtain ⟨B0, hB0⟩ : ∃ B, B = beginS p s.store := ⟨_, rfl⟩
  have fB : Small B0 := by rw [hB0]; exact (Valid.begin hb0).small
  rw [← hB0]
  obtain ⟨m1, e5⟩ : ∃ n, B0.store.length = n := ⟨_, rfl⟩
  obtain ⟨m2, e6⟩ : ∃ n, B0.rd.length = n := ⟨_, rfl⟩
  obtain ⟨m3, e7⟩ : ∃ n, B0.wr.length = n := ⟨_, rfl⟩
  obtain ⟨m4, e8⟩ : ∃ n, B0.vals.length = n := ⟨_, rfl⟩
  have b5 : m1 ≤ 1000 := e5 ▸ fB.store
  have b6 : m2 ≤ 8 := e6 ▸ fB.rd
  have b7 : m3 ≤ 8 := e7 ▸ fB.wr
  have b8 : m4 ≤ 8 := e8 ▸ fB.vals
  refine WP.shift (Shift.sub (σ' := [(12, .sl 99 2), (3, .im (IV.ptr (cP p))), (4, .im (IV.ptr (cSt s))), (5, .im (IV.ptr (cStp x))), (7, .off 0 0), (9, .im (IV.int (doE p s x))), (11, .im (IV.int 0))]) (H' := rsH2 s m1 m2 m3 m4 B0) (fr' := 100) ([(0, 0), (99, 52), (50, 2)] ++ rnN 51 3 ++ rnN 67 19 ++ rnN 83 35) rfl (SubE.cons rfl (SLe.sl rfl rfl) SubE.a) (SubH.cons rfl rfl (ObLe.blk SLes.a) (SubH.cons rfl rfl (ObLe.blk (SLes.cons (SLe.im (ILe.eq (by rw [hst0]; rfl))) (SLes.cons (SLe.im (ILe.eq (by rw [hst0]; rfl))) (SLes.cons (SLe.im (ILe.eq (by rw [hst0]; rfl))) (SLes.cons (SLe.im (ILe.eq (by rw [hst0]; rfl))) (SLes.cons (SLe.row rfl e5) (SLes.cons (SLe.row rfl e6) (SLes.cons (SLe.row rfl e7) (SLes.cons (SLe.row rfl e8) SLes.nil))))))))) (SubH.cons rfl rfl (ObLe.row rfl) (SubH.cons rfl rfl (ObLe.nest rfl) (SubH.cons rfl rfl (ObLe.nest rfl) (SubH.cons rfl rfl (ObLe.nest rfl) SubH.nil))))))) ?_
  have f2 : Fit B0 m1 m2 m3 m4 := ⟨e5, e6, e7, e8, fB.rdr, fB.wrr, fB.valr⟩
  clear hB0 fB e5 e6 e7 e8
  ((repeat apply WP.seq); apply WP.lreg; refine nA rfl rfl ?_; refine ALK.nil ?_; try show WP _ _ _ _ _ _)
  ((repeat apply WP.seq); apply WP.block)
  refine WP.loop (fun c : Nat × StT × StT => ⟨[(13, .im (IV.int ((c.1 : Nat) : Int))), (12, .sl 99 2), (3, .im (IV.ptr (cP p))), (4, .im (IV.ptr (cSt s))), (5, .im (IV.ptr (cStp x))), (7, .off 0 0), (9, .im (IV.int (doE p s x))), (11, .im (IV.int 0))], (rsH2 s m1 m2 m3 m4 c.2.2), 100⟩) (fun c => c.1 ≤ 2 ∧ True ∧ Fit c.2.2 m1 m2 m3 m4) (fun c => 2 - c.1) (0, st0, B0) ⟨Nat.zero_le _, trivial, f2⟩ (Shift.sub ([(0, 0), (99, 99), (50, 50)] ++ rnN 51 51 ++ rnN 67 67 ++ rnN 83 83) rfl (SubE.cons rfl SLe.a (SubE.cons rfl (SLe.sl rfl rfl) SubE.a)) (SubH.cons rfl rfl (ObLe.blk SLes.a) (SubH.cons rfl rfl (ObLe.blk SLes.a) (SubH.cons rfl rfl (ObLe.row rfl) (SubH.cons rfl rfl (ObLe.nest rfl) (SubH.cons rfl rfl (ObLe.nest rfl) (SubH.cons rfl rfl (ObLe.nest rfl) SubH.nil))))))) ?_
  rintro ⟨i, A, B⟩ ⟨hi, hA, hB2⟩
  simp only at hi hA hB2
  ((repeat apply WP.seq); apply WP.lreg; refine nM rfl rfl ?_; refine nM rfl rfl ?_; refine ALK.n (opn_lenSl rfl (eB rfl)) rfl ?_; refine ALK.n OpN.cm rfl ?_; refine ALK.nil ?_; try show WP _ _ _ _ _ _)
  ((repeat apply WP.seq); refine WP.cond rfl (fun h => ?_) (fun h => ?_))
  · (refine WP.skip ?_; show WP _ _ _ _ _ _)
    have hi2 : i < 2 := by simp at h; omega
    clear h
    ((repeat apply WP.seq); apply WP.block)
    have hi01 : i = 0 ∨ i = 1 := by omega
    rcases hi01 with rfl | rfl
    ·
      ((repeat apply WP.seq); apply WP.lreg; refine nA rfl rfl ?_; refine ALK.nil ?_; try show WP _ _ _ _ _ _)
      ((repeat apply WP.seq); apply WP.block)
      refine WP.loop (fun _ : Unit => ⟨[(14, .im (IV.int ((0 : Nat) : Int))), (13, .im (IV.int ((0 : Nat) : Int))), (12, .sl 99 2), (3, .im (IV.ptr (cP p))), (4, .im (IV.ptr (cSt s))), (5, .im (IV.ptr (cStp x))), (7, .off 0 0), (9, .im (IV.int (doE p s x))), (11, .im (IV.int 0))], (rsH2 s m1 m2 m3 m4 B), 100⟩) (fun _ => True) (fun _ => 0) () trivial (Shift.sub ([(0, 0), (99, 99), (50, 50)] ++ rnN 51 51 ++ rnN 67 67 ++ rnN 83 83) rfl (SubE.cons rfl SLe.a (SubE.cons rfl SLe.a (SubE.cons rfl (SLe.sl rfl rfl) SubE.a))) (SubH.cons rfl rfl (ObLe.blk SLes.a) (SubH.cons rfl rfl (ObLe.blk SLes.a) (SubH.cons rfl rfl (ObLe.row rfl) (SubH.cons rfl rfl (ObLe.nest rfl) (SubH.cons rfl rfl (ObLe.nest rfl) (SubH.cons rfl rfl (ObLe.nest rfl) SubH.nil))))))) ?_
      rintro ⟨⟩ -
      ((repeat apply WP.seq); apply WP.lreg; refine nM rfl rfl ?_; refine nM rfl rfl ?_; refine nM rfl rfl ?_; refine ALK.n (opn_indexSl (i := ((0 : Nat) : Int)) rfl (eB rfl) (eB rfl) (by omega) (by omega)) rfl ?_; (first | refine ALK.n (opn_field (o := 0) rfl (eB rfl)) rfl ?_ | refine ALK.n (opn_fieldOff (o := 0) rfl (eB rfl)) rfl ?_); (first | refine ALK.n (opn_load rfl (eB rfl) rfl) rfl ?_ | refine ALK.r OpR.ld rfl ?_); refine ALK.n OpN.ln rfl ?_; refine ALK.n OpN.cm rfl ?_; refine ALK.nil ?_; try show WP _ _ _ _ _ _)
      ((repeat apply WP.seq); refine WP.cond rfl (fun h => ?_) (fun h => ?_))
      · exfalso
        simp at h
      · ((repeat apply WP.seq); refine WP.exit ?_; show WP _ _ _ _ _ _)
        clear h
        ((repeat apply WP.seq); apply WP.lreg; refine nA rfl rfl ?_; refine ALK.nil ?_; try show WP _ _ _ _ _ _)
        ((repeat apply WP.seq); apply WP.block)
        refine WP.loop (fun _ : Unit => ⟨[(15, .im (IV.int ((0 : Nat) : Int))), (13, .im (IV.int ((0 : Nat) : Int))), (12, .sl 99 2), (3, .im (IV.ptr (cP p))), (4, .im (IV.ptr (cSt s))), (5, .im (IV.ptr (cStp x))), (7, .off 0 0), (9, .im (IV.int (doE p s x))), (11, .im (IV.int 0))], (rsH2 s m1 m2 m3 m4 B), 100⟩) (fun _ => True) (fun _ => 0) () trivial (Shift.sub ([(0, 0), (99, 99), (50, 50)] ++ rnN 51 51 ++ rnN 67 67 ++ rnN 83 83) rfl (SubE.cons rfl SLe.a (SubE.cons rfl SLe.a (SubE.cons rfl (SLe.sl rfl rfl) SubE.a))) (SubH.cons rfl rfl (ObLe.blk SLes.a) (SubH.cons rfl rfl (ObLe.blk SLes.a) (SubH.cons rfl rfl (ObLe.row rfl) (SubH.cons rfl rfl (ObLe.nest rfl) (SubH.cons rfl rfl (ObLe.nest rfl) (SubH.cons rfl rfl (ObLe.nest rfl) SubH.nil))))))) ?_
        rintro ⟨⟩ -
        ((repeat apply WP.seq); apply WP.lreg; refine nM rfl rfl ?_; refine nM rfl rfl ?_; refine nM rfl rfl ?_; refine ALK.n (opn_indexSl (i := ((0 : Nat) : Int)) rfl (eB rfl) (eB rfl) (by omega) (by omega)) rfl ?_; (first | refine ALK.n (opn_field (o := 1) rfl (eB rfl)) rfl ?_ | refine ALK.n (opn_fieldOff (o := 1) rfl (eB rfl)) rfl ?_); (first | refine ALK.n (opn_load rfl (eB rfl) rfl) rfl ?_ | refine ALK.r OpR.ld rfl ?_); refine ALK.n OpN.ln rfl ?_; refine ALK.n OpN.cm rfl ?_; refine ALK.nil ?_; try show WP _ _ _ _ _ _)
        ((repeat apply WP.seq); refine WP.cond rfl (fun h => ?_) (fun h => ?_))
        · exfalso
          simp at h
        · ((repeat apply WP.seq); refine WP.exit ?_; show WP _ _ _ _ _ _)
          clear h
          ((repeat apply WP.seq); apply WP.lreg; refine nA rfl rfl ?_; refine ALK.nil ?_; try show WP _ _ _ _ _ _)
          ((repeat apply WP.seq); apply WP.block)
          refine WP.loop (fun _ : Unit => ⟨[(17, .im (IV.int ((0 : Nat) : Int))), (13, .im (IV.int ((0 : Nat) : Int))), (12, .sl 99 2), (3, .im (IV.ptr (cP p))), (4, .im (IV.ptr (cSt s))), (5, .im (IV.ptr (cStp x))), (7, .off 0 0), (9, .im (IV.int (doE p s x))), (11, .im (IV.int 0))], (rsH2 s m1 m2 m3 m4 B), 100⟩) (fun _ => True) (fun _ => 0) () trivial (Shift.sub ([(0, 0), (99, 99), (50, 50)] ++ rnN 51 51 ++ rnN 67 67 ++ rnN 83 83) rfl (SubE.cons rfl SLe.a (SubE.cons rfl SLe.a (SubE.cons rfl (SLe.sl rfl rfl) SubE.a))) (SubH.cons rfl rfl (ObLe.blk SLes.a) (SubH.cons rfl rfl (ObLe.blk SLes.a) (SubH.cons rfl rfl (ObLe.row rfl) (SubH.cons rfl rfl (ObLe.nest rfl) (SubH.cons rfl rfl (ObLe.nest rfl) (SubH.cons rfl rfl (ObLe.nest rfl) SubH.nil))))))) ?_
          rintro ⟨⟩ -
          ((repeat apply WP.seq); apply WP.lreg; refine nM rfl rfl ?_; refine nM rfl rfl ?_; refine nM rfl rfl ?_; refine ALK.n (opn_indexSl (i := ((0 : Nat) : Int)) rfl (eB rfl) (eB rfl) (by omega) (by omega)) rfl ?_; (first | refine ALK.n (opn_field (o := 2) rfl (eB rfl)) rfl ?_ | refine ALK.n (opn_fieldOff (o := 2) rfl (eB rfl)) rfl ?_); (first | refine ALK.n (opn_load rfl (eB rfl) rfl) rfl ?_ | refine ALK.r OpR.ld rfl ?_); refine ALK.n OpN.ln rfl ?_; refine ALK.n OpN.cm rfl ?_; refine ALK.nil ?_; try show WP _ _ _ _ _ _)
          ((repeat apply WP.seq); refine WP.cond rfl (fun h => ?_) (fun h => ?_))
          · exfalso
            simp at h
          · ((repeat apply WP.seq); refine WP.exit ?_; show WP _ _ _ _ _ _)
            clear h
            ((repeat apply WP.seq); apply WP.lreg; refine nA rfl rfl ?_; refine ALK.nil ?_; try show WP _ _ _ _ _ _)
            ((repeat apply WP.seq); apply WP.block)
            refine WP.loop (fun _ : Unit => ⟨[(19, .im (IV.int ((0 : Nat) : Int))), (13, .im (IV.int ((0 : Nat) : Int))), (12, .sl 99 2), (3, .im (IV.ptr (cP p))), (4, .im (IV.ptr (cSt s))), (5, .im (IV.ptr (cStp x))), (7, .off 0 0), (9, .im (IV.int (doE p s x))), (11, .im (IV.int 0))], (rsH2 s m1 m2 m3 m4 B), 100⟩) (fun _ => True) (fun _ => 0) () trivial (Shift.sub ([(0, 0), (99, 99), (50, 50)] ++ rnN 51 51 ++ rnN 67 67 ++ rnN 83 83) rfl (SubE.cons rfl SLe.a (SubE.cons rfl SLe.a (SubE.cons rfl (SLe.sl rfl rfl) SubE.a))) (SubH.cons rfl rfl (ObLe.blk SLes.a) (SubH.cons rfl rfl (ObLe.blk SLes.a) (SubH.cons rfl rfl (ObLe.row rfl) (SubH.cons rfl rfl (ObLe.nest rfl) (SubH.cons rfl rfl (ObLe.nest rfl) (SubH.cons rfl rfl (ObLe.nest rfl) SubH.nil))))))) ?_
            rintro ⟨⟩ -
            ((repeat apply WP.seq); apply WP.lreg; refine nM rfl rfl ?_; refine nM rfl rfl ?_; refine nM rfl rfl ?_; refine ALK.n (opn_indexSl (i := ((0 : Nat) : Int)) rfl (eB rfl) (eB rfl) (by omega) (by omega)) rfl ?_; (first | refine ALK.n (opn_field (o := 3) rfl (eB rfl)) rfl ?_ | refine ALK.n (opn_fieldOff (o := 3) rfl (eB rfl)) rfl ?_); (first | refine ALK.n (opn_load rfl (eB rfl) rfl) rfl ?_ | refine ALK.r OpR.ld rfl ?_); refine ALK.n OpN.ln rfl ?_; refine ALK.n OpN.cm rfl ?_; refine ALK.nil ?_; try show WP _ _ _ _ _ _)
            ((repeat apply WP.seq); refine WP.cond rfl (fun h => ?_) (fun h => ?_))
            · exfalso
              simp at h
            · ((repeat apply WP.seq); refine WP.exit ?_; show WP _ _ _ _ _ _)
              clear h
              ((repeat apply WP.seq); apply WP.lreg; refine nM rfl rfl ?_; refine ALK.n OpN.ar rfl ?_; refine nA rfl rfl ?_; refine ALK.nil ?_; try show WP _ _ _ _ _ _)
              show ∃ _, _ ∧ _ ∧ _
              exact ⟨(1, A, B), ⟨by simp only; omega, trivial, hB2⟩, by simp only; omega, Shift.sub ([(0, 0), (99, 99), (50, 50)] ++ rnN 51 51 ++ rnN 67 67 ++ rnN 83 83) rfl (SubE.cons rfl SLe.a (SubE.cons rfl (SLe.sl rfl rfl) SubE.a)) (SubH.cons rfl rfl (ObLe.blk SLes.a) (SubH.cons rfl rfl (ObLe.blk SLes.a) (SubH.cons rfl rfl (ObLe.row rfl) (SubH.cons rfl rfl (ObLe.nest rfl) (SubH.cons rfl rfl (ObLe.nest rfl) (SubH.cons rfl rfl (ObLe.nest rfl) SubH.nil))))))⟩
    ·
      ((repeat apply WP.seq); apply WP.lreg; refine nA rfl rfl ?_; refine ALK.nil ?_; try show WP _ _ _ _ _ _)
      ((repeat apply WP.seq); apply WP.block)
      refine WP.loop (fun c : Nat × List Int => ⟨[(14, .im (IV.int ((c.1 : Nat) : Int))), (13, .im (IV.int ((1 : Nat) : Int))), (12, .sl 99 2), (3, .im (IV.ptr (cP p))), (4, .im (IV.ptr (cSt s))), (5, .im (IV.ptr (cStp x))), (7, .off 0 0), (9, .im (IV.int (doE p s x))), (11, .im (IV.int 0))], (rsH2 s m1 m2 m3 m4 ⟨c.2, B.rd, B.wr, B.vals⟩), 100⟩) (fun c => c.1 ≤ m1 ∧ c.2.length = m1) (fun c => m1 - c.1) (0, B.store) ⟨Nat.zero_le _, hB2.store⟩ (Shift.sub ([(0, 0), (99, 99), (50, 50)] ++ rnN 51 51 ++ rnN 67 67 ++ rnN 83 83) rfl (SubE.cons rfl SLe.a (SubE.cons rfl SLe.a (SubE.cons rfl (SLe.sl rfl rfl) SubE.a))) (SubH.cons rfl rfl (ObLe.blk SLes.a) (SubH.cons rfl rfl (ObLe.blk SLes.a) (SubH.cons rfl rfl (ObLe.row rfl) (SubH.cons rfl rfl (ObLe.nest rfl) (SubH.cons rfl rfl (ObLe.nest rfl) (SubH.cons rfl rfl (ObLe.nest rfl) SubH.nil))))))) ?_
      rintro ⟨j, ys⟩ ⟨hj, hy⟩
      simp only at hj hy
      ((repeat apply WP.seq); apply WP.lreg; refine nM rfl rfl ?_; refine nM rfl rfl ?_; refine nM rfl rfl ?_; refine ALK.n (opn_indexSl (i := ((1 : Nat) : Int)) rfl (eB rfl) (eB rfl) (by omega) (by omega)) rfl ?_; (first | refine ALK.n (opn_field (o := 0) rfl (eB rfl)) rfl ?_ | refine ALK.n (opn_fieldOff (o := 0) rfl (eB rfl)) rfl ?_); (first | refine ALK.n (opn_load rfl (eB rfl) rfl) rfl ?_ | refine ALK.r OpR.ld rfl ?_); refine ALK.n OpN.ln rfl ?_; refine ALK.n OpN.cm rfl ?_; refine ALK.nil ?_; try show WP _ _ _ _ _ _)
      ((repeat apply WP.seq); refine WP.cond rfl (fun h => ?_) (fun h => ?_))
      · (refine WP.skip ?_; show WP _ _ _ _ _ _)
        have hjl : j < m1 := by simpa using h
        have hjy : j < ys.length := by omega
        clear h
        ((repeat apply WP.seq); apply WP.block)
        ((repeat apply WP.seq); apply WP.lreg; refine nM rfl rfl ?_; refine nM rfl rfl ?_; refine ALK.n (opn_indexSl (i := ((1 : Nat) : Int)) rfl (eB rfl) (eB rfl) (by omega) (by omega)) rfl ?_; (first | refine ALK.n (opn_field (o := 0) rfl (eB rfl)) rfl ?_ | refine ALK.n (opn_fieldOff (o := 0) rfl (eB rfl)) rfl ?_); (first | refine ALK.n (opn_load rfl (eB rfl) rfl) rfl ?_ | refine ALK.r OpR.ld rfl ?_); refine nM rfl rfl ?_; refine ALK.n OpN.ix rfl ?_; refine ALK.e (ope_storeRow (z := -9) rfl rfl (eB rfl) (eB rfl) (oc_val rfl) rfl rfl hjy) rfl rfl ?_; refine ALK.nil ?_; try show WP _ _ _ _ _ _)
        ((repeat apply WP.seq); apply WP.lreg; refine nM rfl rfl ?_; refine ALK.n OpN.ar rfl ?_; refine nA rfl rfl ?_; refine ALK.nil ?_; try show WP _ _ _ _ _ _)
        show ∃ _, _ ∧ _ ∧ _
        exact ⟨(j + 1, ys.set j (-9)), ⟨by simp only; omega, by simp only [List.length_set]; exact hy⟩, by simp only; omega, Shift.sub ([(0, 0), (99, 99), (50, 50)] ++ rnN 51 51 ++ rnN 67 67 ++ rnN 83 83) rfl (SubE.cons rfl SLe.a (SubE.cons rfl SLe.a (SubE.cons rfl (SLe.sl rfl rfl) SubE.a))) (SubH.cons rfl rfl (ObLe.blk SLes.a) (SubH.cons rfl rfl (ObLe.blk SLes.a) (SubH.cons rfl rfl (ObLe.row rfl) (SubH.cons rfl rfl (ObLe.nest rfl) (SubH.cons rfl rfl (ObLe.nest rfl) (SubH.cons rfl rfl (ObLe.nest rfl) SubH.nil))))))⟩
      · ((repeat apply WP.seq); refine WP.exit ?_; show WP _ _ _ _ _ _)
        clear h hj
        ((repeat apply WP.seq); apply WP.lreg; refine nA rfl rfl ?_; refine ALK.nil ?_; try show WP _ _ _ _ _ _)
        ((repeat apply WP.seq); apply WP.block)
        refine WP.loop (fun c : Nat × List (List Bool) => ⟨[(15, .im (IV.int ((c.1 : Nat) : Int))), (13, .im (IV.int ((1 : Nat) : Int))), (12, .sl 99 2), (3, .im (IV.ptr (cP p))), (4, .im (IV.ptr (cSt s))), (5, .im (IV.ptr (cStp x))), (7, .off 0 0), (9, .im (IV.int (doE p s x))), (11, .im (IV.int 0))], (rsH2 s m1 m2 m3 m4 ⟨ys, c.2, B.wr, B.vals⟩), 100⟩) (fun c => c.1 ≤ m2 ∧ c.2.length = m2 ∧ ∀ l ∈ c.2, l.length ≤ 1000) (fun c => m2 - c.1) (0, B.rd) ⟨Nat.zero_le _, hB2.rd, hB2.rdr⟩ (Shift.sub ([(0, 0), (99, 99), (50, 50)] ++ rnN 51 51 ++ rnN 67 67 ++ rnN 83 83) rfl (SubE.cons rfl SLe.a (SubE.cons rfl SLe.a (SubE.cons rfl (SLe.sl rfl rfl) SubE.a))) (SubH.cons rfl rfl (ObLe.blk SLes.a) (SubH.cons rfl rfl (ObLe.blk SLes.a) (SubH.cons rfl rfl (ObLe.row rfl) (SubH.cons rfl rfl (ObLe.nest rfl) (SubH.cons rfl rfl (ObLe.nest rfl) (SubH.cons rfl rfl (ObLe.nest rfl) SubH.nil))))))) ?_
        rintro ⟨j, yss1⟩ ⟨hj, hl1, hb1⟩
        simp only at hj hl1 hb1
        ((repeat apply WP.seq); apply WP.lreg; refine nM rfl rfl ?_; refine nM rfl rfl ?_; refine nM rfl rfl ?_; refine ALK.n (opn_indexSl (i := ((1 : Nat) : Int)) rfl (eB rfl) (eB rfl) (by omega) (by omega)) rfl ?_; (first | refine ALK.n (opn_field (o := 1) rfl (eB rfl)) rfl ?_ | refine ALK.n (opn_fieldOff (o := 1) rfl (eB rfl)) rfl ?_); (first | refine ALK.n (opn_load rfl (eB rfl) rfl) rfl ?_ | refine ALK.r OpR.ld rfl ?_); refine ALK.n OpN.ln rfl ?_; refine ALK.n OpN.cm rfl ?_; refine ALK.nil ?_; try show WP _ _ _ _ _ _)
        ((repeat apply WP.seq); refine WP.cond rfl (fun h => ?_) (fun h => ?_))
        · (refine WP.skip ?_; show WP _ _ _ _ _ _)
          have hjl : j < m2 := by simpa using h
          clear h
          obtain ⟨row, hrow⟩ := get_at (xs := yss1) (k := j) (by omega)
          have hrl := hb1 row (List.mem_of_getElem? hrow)
          ((repeat apply WP.seq); apply WP.block)
          ((repeat apply WP.seq); apply WP.lreg; refine nA rfl rfl ?_; refine ALK.nil ?_; try show WP _ _ _ _ _ _)
          ((repeat apply WP.seq); apply WP.block)
          refine WP.loop (fun c : Nat × List Bool => ⟨[(16, .im (IV.int ((c.1 : Nat) : Int))), (15, .im (IV.int ((j : Nat) : Int))), (13, .im (IV.int ((1 : Nat) : Int))), (12, .sl 99 2), (3, .im (IV.ptr (cP p))), (4, .im (IV.ptr (cSt s))), (5, .im (IV.ptr (cStp x))), (7, .off 0 0), (9, .im (IV.int (doE p s x))), (11, .im (IV.int 0))], (rsH2 s m1 m2 m3 m4 ⟨ys, yss1.set j c.2, B.wr, B.vals⟩), 100⟩) (fun c => c.1 ≤ row.length ∧ c.2.length = row.length) (fun c => row.length - c.1) (0, row) ⟨Nat.zero_le _, rfl⟩ (Shift.sub ([(0, 0), (99, 99), (50, 50)] ++ rnN 51 51 ++ rnN 67 67 ++ rnN 83 83) rfl (SubE.cons rfl SLe.a (SubE.cons rfl SLe.a (SubE.cons rfl SLe.a (SubE.cons rfl (SLe.sl rfl rfl) SubE.a)))) (SubH.cons rfl rfl (ObLe.blk SLes.a) (SubH.cons rfl rfl (ObLe.blk SLes.a) (SubH.cons rfl rfl (ObLe.row rfl) (SubH.cons rfl rfl (ObLe.nest (by rw [set_same hrow])) (SubH.cons rfl rfl (ObLe.nest rfl) (SubH.cons rfl rfl (ObLe.nest rfl) SubH.nil))))))) ?_
          rintro ⟨q, zs⟩ ⟨hq, hz⟩
          simp only at hq hz
          have hset : (yss1.set j zs)[j]? = some zs := List.getElem?_set_self (by omega)
          ((repeat apply WP.seq); apply WP.lreg; refine nM rfl rfl ?_; refine nM rfl rfl ?_; refine nM rfl rfl ?_; refine ALK.n (opn_indexSl (i := ((1 : Nat) : Int)) rfl (eB rfl) (eB rfl) (by omega) (by omega)) rfl ?_; (first | refine ALK.n (opn_field (o := 1) rfl (eB rfl)) rfl ?_ | refine ALK.n (opn_fieldOff (o := 1) rfl (eB rfl)) rfl ?_); (first | refine ALK.n (opn_load rfl (eB rfl) rfl) rfl ?_ | refine ALK.r OpR.ld rfl ?_); refine nM rfl rfl ?_; refine ALK.n OpN.ix rfl ?_; refine ALK.r (opr_loadNest rfl rfl (eB rfl) rfl hset) rfl ?_; refine ALK.n OpN.ln rfl ?_; refine ALK.n OpN.cm rfl ?_; refine ALK.nil ?_; try show WP _ _ _ _ _ _)
          ((repeat apply WP.seq); refine WP.cond rfl (fun h => ?_) (fun h => ?_))
          · (refine WP.skip ?_; show WP _ _ _ _ _ _)
            have hql : q < zs.length := by simpa using h
            clear h
            obtain ⟨z, hzk⟩ := get_at hql
            ((repeat apply WP.seq); apply WP.block)
            ((repeat apply WP.seq); apply WP.ldraw; refine nM rfl rfl ?_; refine nM rfl rfl ?_; refine ALK.n (opn_indexSl (i := ((1 : Nat) : Int)) rfl (eB rfl) (eB rfl) (by omega) (by omega)) rfl ?_; (first | refine ALK.n (opn_field (o := 1) rfl (eB rfl)) rfl ?_ | refine ALK.n (opn_fieldOff (o := 1) rfl (eB rfl)) rfl ?_); (first | refine ALK.n (opn_load rfl (eB rfl) rfl) rfl ?_ | refine ALK.r OpR.ld rfl ?_); refine nM rfl rfl ?_; refine ALK.n OpN.ix rfl ?_; refine ALK.r (opr_loadNest rfl rfl (eB rfl) rfl hset) rfl ?_; refine nM rfl rfl ?_; refine nM rfl rfl ?_; refine nM rfl rfl ?_; refine ALK.n (opn_indexSl (i := ((1 : Nat) : Int)) rfl (eB rfl) (eB rfl) (by omega) (by omega)) rfl ?_; (first | refine ALK.n (opn_field (o := 1) rfl (eB rfl)) rfl ?_ | refine ALK.n (opn_fieldOff (o := 1) rfl (eB rfl)) rfl ?_); (first | refine ALK.n (opn_load rfl (eB rfl) rfl) rfl ?_ | refine ALK.r OpR.ld rfl ?_); refine nM rfl rfl ?_; refine ALK.n OpN.ix rfl ?_; refine ALK.r (opr_loadNest rfl rfl (eB rfl) rfl hset) rfl ?_; refine nM rfl rfl ?_; refine ALK.n OpN.ix rfl ?_; refine ALK.r (opr_loadNestIn rfl rfl (eB rfl) rfl hset hzk rfl) rfl ?_; refine ALK.n (opn_not (eB rfl)) rfl ?_; refine ALK.n OpN.ix rfl ?_; refine ALK.e (ope_storeNest (z := (!z)) rfl rfl (eB rfl) (eB rfl) (oc_val rfl) rfl hset rfl hql) rfl rfl ?_; refine ALK.nilD (by kernel_rfl) ?_; try show WP _ _ _ _ _ _)
            ((repeat apply WP.seq); apply WP.lreg; refine nM rfl rfl ?_; refine ALK.n OpN.ar rfl ?_; refine nA rfl rfl ?_; refine ALK.nil ?_; try show WP _ _ _ _ _ _)
            show ∃ _, _ ∧ _ ∧ _
            exact ⟨(q + 1, zs.set q (!z)), ⟨by simp only; omega, by simp only [List.length_set]; exact hz⟩, by simp only; omega, Shift.sub ([(0, 0), (99, 99), (50, 50)] ++ rnN 51 51 ++ rnN 67 67 ++ rnN 83 83) rfl (SubE.cons rfl SLe.a (SubE.cons rfl SLe.a (SubE.cons rfl SLe.a (SubE.cons rfl (SLe.sl rfl rfl) SubE.a)))) (SubH.cons rfl rfl (ObLe.blk SLes.a) (SubH.cons rfl rfl (ObLe.blk SLes.a) (SubH.cons rfl rfl (ObLe.row rfl) (SubH.cons rfl rfl (ObLe.nest (List.set_set ..)) (SubH.cons rfl rfl (ObLe.nest rfl) (SubH.cons rfl rfl (ObLe.nest rfl) SubH.nil))))))⟩
          · ((repeat apply WP.seq); refine WP.exit ?_; show WP _ _ _ _ _ _)
            ((repeat apply WP.seq); apply WP.lreg; refine nM rfl rfl ?_; refine ALK.n OpN.ar rfl ?_; refine nA rfl rfl ?_; refine ALK.nil ?_; try show WP _ _ _ _ _ _)
            show ∃ _, _ ∧ _ ∧ _
            exact ⟨(j + 1, yss1.set j zs), ⟨by simp only; omega, by simp only [List.length_set]; exact hl1, by simp only; exact set_le hb1 (by omega)⟩, by simp only; omega, Shift.sub ([(0, 0), (99, 99), (50, 50)] ++ rnN 51 51 ++ rnN 67 67 ++ rnN 83 83) rfl (SubE.cons rfl SLe.a (SubE.cons rfl SLe.a (SubE.cons rfl (SLe.sl rfl rfl) SubE.a))) (SubH.cons rfl rfl (ObLe.blk SLes.a) (SubH.cons rfl rfl (ObLe.blk SLes.a) (SubH.cons rfl rfl (ObLe.row rfl) (SubH.cons rfl rfl (ObLe.nest rfl) (SubH.cons rfl rfl (ObLe.nest rfl) (SubH.cons rfl rfl (ObLe.nest rfl) SubH.nil))))))⟩
        · ((repeat apply WP.seq); refine WP.exit ?_; show WP _ _ _ _ _ _)
          clear h hj
          ((repeat apply WP.seq); apply WP.lreg; refine nA rfl rfl ?_; refine ALK.nil ?_; try show WP _ _ _ _ _ _)
          ((repeat apply WP.seq); apply WP.block)
          refine WP.loop (fun c : Nat × List (List Bool) => ⟨[(17, .im (IV.int ((c.1 : Nat) : Int))), (13, .im (IV.int ((1 : Nat) : Int))), (12, .sl 99 2), (3, .im (IV.ptr (cP p))), (4, .im (IV.ptr (cSt s))), (5, .im (IV.ptr (cStp x))), (7, .off 0 0), (9, .im (IV.int (doE p s x))), (11, .im (IV.int 0))], (rsH2 s m1 m2 m3 m4 ⟨ys, yss1, c.2, B.vals⟩), 100⟩) (fun c => c.1 ≤ m3 ∧ c.2.length = m3 ∧ ∀ l ∈ c.2, l.length ≤ 1000) (fun c => m3 - c.1) (0, B.wr) ⟨Nat.zero_le _, hB2.wr, hB2.wrr⟩ (Shift.sub ([(0, 0), (99, 99), (50, 50)] ++ rnN 51 51 ++ rnN 67 67 ++ rnN 83 83) rfl (SubE.cons rfl SLe.a (SubE.cons rfl SLe.a (SubE.cons rfl (SLe.sl rfl rfl) SubE.a))) (SubH.cons rfl rfl (ObLe.blk SLes.a) (SubH.cons rfl rfl (ObLe.blk SLes.a) (SubH.cons rfl rfl (ObLe.row rfl) (SubH.cons rfl rfl (ObLe.nest rfl) (SubH.cons rfl rfl (ObLe.nest rfl) (SubH.cons rfl rfl (ObLe.nest rfl) SubH.nil))))))) ?_
          rintro ⟨j, yss2⟩ ⟨hj, hl2, hb2⟩
          simp only at hj hl2 hb2
          ((repeat apply WP.seq); apply WP.lreg; refine nM rfl rfl ?_; refine nM rfl rfl ?_; refine nM rfl rfl ?_; refine ALK.n (opn_indexSl (i := ((1 : Nat) : Int)) rfl (eB rfl) (eB rfl) (by omega) (by omega)) rfl ?_; (first | refine ALK.n (opn_field (o := 2) rfl (eB rfl)) rfl ?_ | refine ALK.n (opn_fieldOff (o := 2) rfl (eB rfl)) rfl ?_); (first | refine ALK.n (opn_load rfl (eB rfl) rfl) rfl ?_ | refine ALK.r OpR.ld rfl ?_); refine ALK.n OpN.ln rfl ?_; refine ALK.n OpN.cm rfl ?_; refine ALK.nil ?_; try show WP _ _ _ _ _ _)
          ((repeat apply WP.seq); refine WP.cond rfl (fun h => ?_) (fun h => ?_))
          · (refine WP.skip ?_; show WP _ _ _ _ _ _)
            have hjl : j < m3 := by simpa using h
            clear h
            obtain ⟨row, hrow⟩ := get_at (xs := yss2) (k := j) (by omega)
            have hrl := hb2 row (List.mem_of_getElem? hrow)
            ((repeat apply WP.seq); apply WP.block)
            ((repeat apply WP.seq); apply WP.lreg; refine nA rfl rfl ?_; refine ALK.nil ?_; try show WP _ _ _ _ _ _)
            ((repeat apply WP.seq); apply WP.block)
            refine WP.loop (fun c : Nat × List Bool => ⟨[(18, .im (IV.int ((c.1 : Nat) : Int))), (17, .im (IV.int ((j : Nat) : Int))), (13, .im (IV.int ((1 : Nat) : Int))), (12, .sl 99 2), (3, .im (IV.ptr (cP p))), (4, .im (IV.ptr (cSt s))), (5, .im (IV.ptr (cStp x))), (7, .off 0 0), (9, .im (IV.int (doE p s x))), (11, .im (IV.int 0))], (rsH2 s m1 m2 m3 m4 ⟨ys, yss1, yss2.set j c.2, B.vals⟩), 100⟩) (fun c => c.1 ≤ row.length ∧ c.2.length = row.length) (fun c => row.length - c.1) (0, row) ⟨Nat.zero_le _, rfl⟩ (Shift.sub ([(0, 0), (99, 99), (50, 50)] ++ rnN 51 51 ++ rnN 67 67 ++ rnN 83 83) rfl (SubE.cons rfl SLe.a (SubE.cons rfl SLe.a (SubE.cons rfl SLe.a (SubE.cons rfl (SLe.sl rfl rfl) SubE.a)))) (SubH.cons rfl rfl (ObLe.blk SLes.a) (SubH.cons rfl rfl (ObLe.blk SLes.a) (SubH.cons rfl rfl (ObLe.row rfl) (SubH.cons rfl rfl (ObLe.nest rfl) (SubH.cons rfl rfl (ObLe.nest (by rw [set_same hrow])) (SubH.cons rfl rfl (ObLe.nest rfl) SubH.nil))))))) ?_
            rintro ⟨q, zs⟩ ⟨hq, hz⟩
            simp only at hq hz
            have hset : (yss2.set j zs)[j]? = some zs := List.getElem?_set_self (by omega)
            ((repeat apply WP.seq); apply WP.lreg; refine nM rfl rfl ?_; refine nM rfl rfl ?_; refine nM rfl rfl ?_; refine ALK.n (opn_indexSl (i := ((1 : Nat) : Int)) rfl (eB rfl) (eB rfl) (by omega) (by omega)) rfl ?_; (first | refine ALK.n (opn_field (o := 2) rfl (eB rfl)) rfl ?_ | refine ALK.n (opn_fieldOff (o := 2) rfl (eB rfl)) rfl ?_); (first | refine ALK.n (opn_load rfl (eB rfl) rfl) rfl ?_ | refine ALK.r OpR.ld rfl ?_); refine nM rfl rfl ?_; refine ALK.n OpN.ix rfl ?_; refine ALK.r (opr_loadNest rfl rfl (eB rfl) rfl hset) rfl ?_; refine ALK.n OpN.ln rfl ?_; refine ALK.n OpN.cm rfl ?_; refine ALK.nil ?_; try show WP _ _ _ _ _ _)
            ((repeat apply WP.seq); refine WP.cond rfl (fun h => ?_) (fun h => ?_))
            · (refine WP.skip ?_; show WP _ _ _ _ _ _)
              have hql : q < zs.length := by simpa using h
              clear h
              obtain ⟨z, hzk⟩ := get_at hql
              ((repeat apply WP.seq); apply WP.block)
              ((repeat apply WP.seq); apply WP.ldraw; refine nM rfl rfl ?_; refine nM rfl rfl ?_; refine ALK.n (opn_indexSl (i := ((1 : Nat) : Int)) rfl (eB rfl) (eB rfl) (by omega) (by omega)) rfl ?_; (first | refine ALK.n (opn_field (o := 2) rfl (eB rfl)) rfl ?_ | refine ALK.n (opn_fieldOff (o := 2) rfl (eB rfl)) rfl ?_); (first | refine ALK.n (opn_load rfl (eB rfl) rfl) rfl ?_ | refine ALK.r OpR.ld rfl ?_); refine nM rfl rfl ?_; refine ALK.n OpN.ix rfl ?_; refine ALK.r (opr_loadNest rfl rfl (eB rfl) rfl hset) rfl ?_; refine nM rfl rfl ?_; refine nM rfl rfl ?_; refine nM rfl rfl ?_; refine ALK.n (opn_indexSl (i := ((1 : Nat) : Int)) rfl (eB rfl) (eB rfl) (by omega) (by omega)) rfl ?_; (first | refine ALK.n (opn_field (o := 2) rfl (eB rfl)) rfl ?_ | refine ALK.n (opn_fieldOff (o := 2) rfl (eB rfl)) rfl ?_); (first | refine ALK.n (opn_load rfl (eB rfl) rfl) rfl ?_ | refine ALK.r OpR.ld rfl ?_); refine nM rfl rfl ?_; refine ALK.n OpN.ix rfl ?_; refine ALK.r (opr_loadNest rfl rfl (eB rfl) rfl hset) rfl ?_; refine nM rfl rfl ?_; refine ALK.n OpN.ix rfl ?_; refine ALK.r (opr_loadNestIn rfl rfl (eB rfl) rfl hset hzk rfl) rfl ?_; refine ALK.n (opn_not (eB rfl)) rfl ?_; refine ALK.n OpN.ix rfl ?_; refine ALK.e (ope_storeNest (z := (!z)) rfl rfl (eB rfl) (eB rfl) (oc_val rfl) rfl hset rfl hql) rfl rfl ?_; refine ALK.nilD (by kernel_rfl) ?_; try show WP _ _ _ _ _ _)
              ((repeat apply WP.seq); apply WP.lreg; refine nM rfl rfl ?_; refine ALK.n OpN.ar rfl ?_; refine nA rfl rfl ?_; refine ALK.nil ?_; try show WP _ _ _ _ _ _)
              show ∃ _, _ ∧ _ ∧ _
              exact ⟨(q + 1, zs.set q (!z)), ⟨by simp only; omega, by simp only [List.length_set]; exact hz⟩, by simp only; omega, Shift.sub ([(0, 0), (99, 99), (50, 50)] ++ rnN 51 51 ++ rnN 67 67 ++ rnN 83 83) rfl (SubE.cons rfl SLe.a (SubE.cons rfl SLe.a (SubE.cons rfl SLe.a (SubE.cons rfl (SLe.sl rfl rfl) SubE.a)))) (SubH.cons rfl rfl (ObLe.blk SLes.a) (SubH.cons rfl rfl (ObLe.blk SLes.a) (SubH.cons rfl rfl (ObLe.row rfl) (SubH.cons rfl rfl (ObLe.nest rfl) (SubH.cons rfl rfl (ObLe.nest (List.set_set ..)) (SubH.cons rfl rfl (ObLe.nest rfl) SubH.nil))))))⟩
            · ((repeat apply WP.seq); refine WP.exit ?_; show WP _ _ _ _ _ _)
              ((repeat apply WP.seq); apply WP.lreg; refine nM rfl rfl ?_; refine ALK.n OpN.ar rfl ?_; refine nA rfl rfl ?_; refine ALK.nil ?_; try show WP _ _ _ _ _ _)
              show ∃ _, _ ∧ _ ∧ _
              exact ⟨(j + 1, yss2.set j zs), ⟨by simp only; omega, by simp only [List.length_set]; exact hl2, by simp only; exact set_le hb2 (by omega)⟩, by simp only; omega, Shift.sub ([(0, 0), (99, 99), (50, 50)] ++ rnN 51 51 ++ rnN 67 67 ++ rnN 83 83) rfl (SubE.cons rfl SLe.a (SubE.cons rfl SLe.a (SubE.cons rfl (SLe.sl rfl rfl) SubE.a))) (SubH.cons rfl rfl (ObLe.blk SLes.a) (SubH.cons rfl rfl (ObLe.blk SLes.a) (SubH.cons rfl rfl (ObLe.row rfl) (SubH.cons rfl rfl (ObLe.nest rfl) (SubH.cons rfl rfl (ObLe.nest rfl) (SubH.cons rfl rfl (ObLe.nest rfl) SubH.nil))))))⟩
          · ((repeat apply WP.seq); refine WP.exit ?_; show WP _ _ _ _ _ _)
            clear h hj
            ((repeat apply WP.seq); apply WP.lreg; refine nA rfl rfl ?_; refine ALK.nil ?_; try show WP _ _ _ _ _ _)
            ((repeat apply WP.seq); apply WP.block)
            refine WP.loop (fun c : Nat × List (List Int) => ⟨[(19, .im (IV.int ((c.1 : Nat) : Int))), (13, .im (IV.int ((1 : Nat) : Int))), (12, .sl 99 2), (3, .im (IV.ptr (cP p))), (4, .im (IV.ptr (cSt s))), (5, .im (IV.ptr (cStp x))), (7, .off 0 0), (9, .im (IV.int (doE p s x))), (11, .im (IV.int 0))], (rsH2 s m1 m2 m3 m4 ⟨ys, yss1, yss2, c.2⟩), 100⟩) (fun c => c.1 ≤ m4 ∧ c.2.length = m4 ∧ ∀ l ∈ c.2, l.length ≤ 1000) (fun c => m4 - c.1) (0, B.vals) ⟨Nat.zero_le _, hB2.vals, hB2.valr⟩ (Shift.sub ([(0, 0), (99, 99), (50, 50)] ++ rnN 51 51 ++ rnN 67 67 ++ rnN 83 83) rfl (SubE.cons rfl SLe.a (SubE.cons rfl SLe.a (SubE.cons rfl (SLe.sl rfl rfl) SubE.a))) (SubH.cons rfl rfl (ObLe.blk SLes.a) (SubH.cons rfl rfl (ObLe.blk SLes.a) (SubH.cons rfl rfl (ObLe.row rfl) (SubH.cons rfl rfl (ObLe.nest rfl) (SubH.cons rfl rfl (ObLe.nest rfl) (SubH.cons rfl rfl (ObLe.nest rfl) SubH.nil))))))) ?_
            rintro ⟨j, yss3⟩ ⟨hj, hl3, hb3⟩
            simp only at hj hl3 hb3
            ((repeat apply WP.seq); apply WP.lreg; refine nM rfl rfl ?_; refine nM rfl rfl ?_; refine nM rfl rfl ?_; refine ALK.n (opn_indexSl (i := ((1 : Nat) : Int)) rfl (eB rfl) (eB rfl) (by omega) (by omega)) rfl ?_; (first | refine ALK.n (opn_field (o := 3) rfl (eB rfl)) rfl ?_ | refine ALK.n (opn_fieldOff (o := 3) rfl (eB rfl)) rfl ?_); (first | refine ALK.n (opn_load rfl (eB rfl) rfl) rfl ?_ | refine ALK.r OpR.ld rfl ?_); refine ALK.n OpN.ln rfl ?_; refine ALK.n OpN.cm rfl ?_; refine ALK.nil ?_; try show WP _ _ _ _ _ _)
            ((repeat apply WP.seq); refine WP.cond rfl (fun h => ?_) (fun h => ?_))
            · (refine WP.skip ?_; show WP _ _ _ _ _ _)
              have hjl : j < m4 := by simpa using h
              clear h
              obtain ⟨row, hrow⟩ := get_at (xs := yss3) (k := j) (by omega)
              have hrl := hb3 row (List.mem_of_getElem? hrow)
              ((repeat apply WP.seq); apply WP.block)
              ((repeat apply WP.seq); apply WP.lreg; refine nA rfl rfl ?_; refine ALK.nil ?_; try show WP _ _ _ _ _ _)
              ((repeat apply WP.seq); apply WP.block)
              refine WP.loop (fun c : Nat × List Int => ⟨[(20, .im (IV.int ((c.1 : Nat) : Int))), (19, .im (IV.int ((j : Nat) : Int))), (13, .im (IV.int ((1 : Nat) : Int))), (12, .sl 99 2), (3, .im (IV.ptr (cP p))), (4, .im (IV.ptr (cSt s))), (5, .im (IV.ptr (cStp x))), (7, .off 0 0), (9, .im (IV.int (doE p s x))), (11, .im (IV.int 0))], (rsH2 s m1 m2 m3 m4 ⟨ys, yss1, yss2, yss3.set j c.2⟩), 100⟩) (fun c => c.1 ≤ row.length ∧ c.2.length = row.length) (fun c => row.length - c.1) (0, row) ⟨Nat.zero_le _, rfl⟩ (Shift.sub ([(0, 0), (99, 99), (50, 50)] ++ rnN 51 51 ++ rnN 67 67 ++ rnN 83 83) rfl (SubE.cons rfl SLe.a (SubE.cons rfl SLe.a (SubE.cons rfl SLe.a (SubE.cons rfl (SLe.sl rfl rfl) SubE.a)))) (SubH.cons rfl rfl (ObLe.blk SLes.a) (SubH.cons rfl rfl (ObLe.blk SLes.a) (SubH.cons rfl rfl (ObLe.row rfl) (SubH.cons rfl rfl (ObLe.nest rfl) (SubH.cons rfl rfl (ObLe.nest rfl) (SubH.cons rfl rfl (ObLe.nest (by rw [set_same hrow])) SubH.nil))))))) ?_
              rintro ⟨q, zs⟩ ⟨hq, hz⟩
              simp only at hq hz
              have hset : (yss3.set j zs)[j]? = some zs := List.getElem?_set_self (by omega)
              ((repeat apply WP.seq); apply WP.lreg; refine nM rfl rfl ?_; refine nM rfl rfl ?_; refine nM rfl rfl ?_; refine ALK.n (opn_indexSl (i := ((1 : Nat) : Int)) rfl (eB rfl) (eB rfl) (by omega) (by omega)) rfl ?_; (first | refine ALK.n (opn_field (o := 3) rfl (eB rfl)) rfl ?_ | refine ALK.n (opn_fieldOff (o := 3) rfl (eB rfl)) rfl ?_); (first | refine ALK.n (opn_load rfl (eB rfl) rfl) rfl ?_ | refine ALK.r OpR.ld rfl ?_); refine nM rfl rfl ?_; refine ALK.n OpN.ix rfl ?_; refine ALK.r (opr_loadNest rfl rfl (eB rfl) rfl hset) rfl ?_; refine ALK.n OpN.ln rfl ?_; refine ALK.n OpN.cm rfl ?_; refine ALK.nil ?_; try show WP _ _ _ _ _ _)
              ((repeat apply WP.seq); refine WP.cond rfl (fun h => ?_) (fun h => ?_))
              · (refine WP.skip ?_; show WP _ _ _ _ _ _)
                have hql : q < zs.length := by simpa using h
                clear h
                obtain ⟨z, hzk⟩ := get_at hql
                ((repeat apply WP.seq); apply WP.block)
                ((repeat apply WP.seq); apply WP.lreg; refine nM rfl rfl ?_; refine nM rfl rfl ?_; refine ALK.n (opn_indexSl (i := ((1 : Nat) : Int)) rfl (eB rfl) (eB rfl) (by omega) (by omega)) rfl ?_; (first | refine ALK.n (opn_field (o := 3) rfl (eB rfl)) rfl ?_ | refine ALK.n (opn_fieldOff (o := 3) rfl (eB rfl)) rfl ?_); (first | refine ALK.n (opn_load rfl (eB rfl) rfl) rfl ?_ | refine ALK.r OpR.ld rfl ?_); refine nM rfl rfl ?_; refine ALK.n OpN.ix rfl ?_; refine ALK.r (opr_loadNest rfl rfl (eB rfl) rfl hset) rfl ?_; refine nM rfl rfl ?_; refine ALK.n OpN.ix rfl ?_; refine ALK.e (ope_storeNest (z := (-9)) rfl rfl (eB rfl) (eB rfl) (oc_val rfl) rfl hset rfl hql) rfl rfl ?_; refine ALK.nil ?_; try show WP _ _ _ _ _ _)
                ((repeat apply WP.seq); apply WP.lreg; refine nM rfl rfl ?_; refine ALK.n OpN.ar rfl ?_; refine nA rfl rfl ?_; refine ALK.nil ?_; try show WP _ _ _ _ _ _)
                show ∃ _, _ ∧ _ ∧ _
                exact ⟨(q + 1, zs.set q (-9)), ⟨by simp only; omega, by simp only [List.length_set]; exact hz⟩, by simp only; omega, Shift.sub ([(0, 0), (99, 99), (50, 50)] ++ rnN 51 51 ++ rnN 67 67 ++ rnN 83 83) rfl (SubE.cons rfl SLe.a (SubE.cons rfl SLe.a (SubE.cons rfl SLe.a (SubE.cons rfl (SLe.sl rfl rfl) SubE.a)))) (SubH.cons rfl rfl (ObLe.blk SLes.a) (SubH.cons rfl rfl (ObLe.blk SLes.a) (SubH.cons rfl rfl (ObLe.row rfl) (SubH.cons rfl rfl (ObLe.nest rfl) (SubH.cons rfl rfl (ObLe.nest rfl) (SubH.cons rfl rfl (ObLe.nest (List.set_set ..)) SubH.nil))))))⟩
              · ((repeat apply WP.seq); refine WP.exit ?_; show WP _ _ _ _ _ _)
                ((repeat apply WP.seq); apply WP.lreg; refine nM rfl rfl ?_; refine ALK.n OpN.ar rfl ?_; refine nA rfl rfl ?_; refine ALK.nil ?_; try show WP _ _ _ _ _ _)
                show ∃ _, _ ∧ _ ∧ _
                exact ⟨(j + 1, yss3.set j zs), ⟨by simp only; omega, by simp only [List.length_set]; exact hl3, by simp only; exact set_le hb3 (by omega)⟩, by simp only; omega, Shift.sub ([(0, 0), (99, 99), (50, 50)] ++ rnN 51 51 ++ rnN 67 67 ++ rnN 83 83) rfl (SubE.cons rfl SLe.a (SubE.cons rfl SLe.a (SubE.cons rfl (SLe.sl rfl rfl) SubE.a))) (SubH.cons rfl rfl (ObLe.blk SLes.a) (SubH.cons rfl rfl (ObLe.blk SLes.a) (SubH.cons rfl rfl (ObLe.row rfl) (SubH.cons rfl rfl (ObLe.nest rfl) (SubH.cons rfl rfl (ObLe.nest rfl) (SubH.cons rfl rfl (ObLe.nest rfl) SubH.nil))))))⟩
            · ((repeat apply WP.seq); refine WP.exit ?_; show WP _ _ _ _ _ _)
              clear h hj
              ((repeat apply WP.seq); apply WP.lreg; refine nM rfl rfl ?_; refine ALK.n OpN.ar rfl ?_; refine nA rfl rfl ?_; refine ALK.nil ?_; try show WP _ _ _ _ _ _)
              show ∃ _, _ ∧ _ ∧ _
              exact ⟨(2, A, ⟨ys, yss1, yss2, yss3⟩), ⟨by simp only; omega, trivial, ⟨hy, hl1, hl2, hl3, hb1, hb2, hb3⟩⟩, by simp only; omega, Shift.sub ([(0, 0), (99, 99), (50, 50)] ++ rnN 51 51 ++ rnN 67 67 ++ rnN 83 83) rfl (SubE.cons rfl SLe.a (SubE.cons rfl (SLe.sl rfl rfl) SubE.a)) (SubH.cons rfl rfl (ObLe.blk SLes.a) (SubH.cons rfl rfl (ObLe.blk SLes.a) (SubH.cons rfl rfl (ObLe.row rfl) (SubH.cons rfl rfl (ObLe.nest rfl) (SubH.cons rfl rfl (ObLe.nest rfl) (SubH.cons rfl rfl (ObLe.nest rfl) SubH.nil))))))⟩
  · ((repeat apply WP.seq); refine WP.exit ?_; show WP _ _ _ _ _ _)
    ((repeat apply WP.seq); apply WP.lreg; (first | refine ALK.n (opn_load rfl (eB rfl) rfl) rfl ?_ | refine ALK.r OpR.ld rfl ?_); (first | refine ALK.n (opn_load rfl (eB rfl) rfl) rfl ?_ | refine ALK.r OpR.ld rfl ?_); (first | refine ALK.n (opn_load rfl (eB rfl) rfl) rfl ?_ | refine ALK.r OpR.ld rfl ?_); refine ALK.n (opn_call (Do_fn p s x hB) (Evs.cons Ev.a (Evs.cons Ev.a (Evs.cons Ev.a Evs.nil)))) rfl ?_; refine nM rfl rfl ?_; refine nX rfl rfl rfl ?_; refine nX rfl rfl rfl ?_; refine ALK.a (opa_alloc rfl rfl) rfl ?_; (first | refine ALK.e (ope_store rfl (eB rfl) (eB rfl) Cs.a rfl rfl rfl) rfl rfl ?_ | refine ALK.e (ope_storeRow rfl rfl (eB rfl) (eB rfl) (oc_val rfl) rfl rfl (by assumption)) rfl rfl ?_); refine nA rfl rfl ?_; refine ALK.nil ?_; try show WP _ _ _ _ _ _)
    ((repeat apply WP.seq); apply WP.lreg; (first | refine ALK.n (opn_load rfl (eB rfl) rfl) rfl ?_ | refine ALK.r OpR.ld rfl ?_); (first | refine ALK.n (opn_load rfl (eB rfl) rfl) rfl ?_ | refine ALK.r OpR.ld rfl ?_); (first | refine ALK.n (opn_load rfl (eB rfl) rfl) rfl ?_ | refine ALK.r OpR.ld rfl ?_); refine ALK.n (opn_call (DoOf_fn p s x hB) (Evs.cons Ev.a (Evs.cons Ev.a (Evs.cons Ev.a Evs.nil)))) rfl ?_; refine nM rfl rfl ?_; refine nX rfl rfl rfl ?_; refine nX rfl rfl rfl ?_; refine ALK.a (opa_alloc rfl rfl) rfl ?_; (first | refine ALK.e (ope_store rfl (eB rfl) (eB rfl) Cs.a rfl rfl rfl) rfl rfl ?_ | refine ALK.e (ope_storeRow rfl rfl (eB rfl) (eB rfl) (oc_val rfl) rfl rfl (by assumption)) rfl rfl ?_); refine nA rfl rfl ?_; refine ALK.nil ?_; try show WP _ _ _ _ _ _)
    ((repeat apply WP.seq); apply WP.lreg; refine ALK.n (opn_call stepsBegun_fn Evs.nil) rfl ?_; refine nM rfl rfl ?_; refine gM rfl rfl rfl rfl ?_; refine gM rfl rfl rfl rfl ?_; (first | refine ALK.g (fun hb => opn_cmp (eC rfl hb) (eC rfl hb) rfl) rfl rfl rfl ?_ | refine ALK.g (fun hb => opn_cmpB rfl (eC rfl hb) (eC rfl hb) rfl) rfl rfl rfl ?_); refine ALK.n (opn_pick_and (eB rfl) rfl (fun hb2 => by first | exact hb2 | (rw [hb, hb2]; rfl) | simp_all [gd]) rfl) rfl ?_; refine nM rfl rfl ?_; refine gM rfl rfl rfl rfl ?_; refine gM rfl rfl rfl rfl ?_; (first | refine ALK.g (fun hb => opn_cmp (eC rfl hb) (eC rfl hb) rfl) rfl rfl rfl ?_ | refine ALK.g (fun hb => opn_cmpB rfl (eC rfl hb) (eC rfl hb) rfl) rfl rfl rfl ?_); refine ALK.n (opn_pick_and (eB rfl) rfl (fun hb2 => by first | exact hb2 | (rw [hb, hb2]; rfl) | simp_all [gd]) rfl) rfl ?_; refine nM rfl rfl ?_; refine gM rfl rfl rfl rfl ?_; (first | refine ALK.g (fun hb => opn_cmp (eC rfl hb) (eB rfl) rfl) rfl rfl rfl ?_ | refine ALK.g (fun hb => opn_cmpB rfl (eC rfl hb) (eB rfl) rfl) rfl rfl rfl ?_); refine ALK.n (opn_pick_and (eB rfl) rfl (fun hb2 => by first | exact hb2 | (rw [hb, hb2]; rfl) | simp_all [gd]) rfl) rfl ?_; refine nM rfl rfl ?_; (first | refine ALK.g (fun hb => opn_load rfl (eB rfl) rfl) rfl rfl rfl ?_ | refine ALK.rg (fun hb => opr_load rfl (eB rfl) rfl rfl) rfl rfl rfl ?_ | refine ALK.rg (fun hb => opr_loadRow rfl rfl (eB rfl) rfl (by assumption) rfl) rfl rfl rfl ?_ | refine ALK.rg (fun hb => opr_loadK0 rfl (eB rfl) rfl (by assumption) rfl) rfl rfl rfl ?_ | refine ALK.rg (fun hb => opr_loadK rfl (eB rfl) rfl (by assumption) rfl) rfl rfl rfl ?_); (first | refine ALK.g (fun hb => opn_load rfl (eB rfl) rfl) rfl rfl rfl ?_ | refine ALK.rg (fun hb => opr_load rfl (eB rfl) rfl rfl) rfl rfl rfl ?_ | refine ALK.rg (fun hb => opr_loadRow rfl rfl (eB rfl) rfl (by assumption) rfl) rfl rfl rfl ?_ | refine ALK.rg (fun hb => opr_loadK0 rfl (eB rfl) rfl (by assumption) rfl) rfl rfl rfl ?_ | refine ALK.rg (fun hb => opr_loadK rfl (eB rfl) rfl (by assumption) rfl) rfl rfl rfl ?_); refine ALK.g (fun hb => opn_call (SameStates_fn _ _) (Evs.cons Ev.a (Evs.cons Ev.a Evs.nil))) rfl rfl rfl ?_; refine ALK.n (opn_pick_and (eB rfl) rfl (fun hb2 => by first | exact hb2 | (rw [hb, hb2]; rfl) | simp_all [gd]) rfl) rfl ?_; refine nM rfl rfl ?_; (first | refine ALK.g (fun hb => opn_load rfl (eB rfl) rfl) rfl rfl rfl ?_ | refine ALK.rg (fun hb => opr_load rfl (eB rfl) rfl rfl) rfl rfl rfl ?_ | refine ALK.rg (fun hb => opr_loadRow rfl rfl (eB rfl) rfl (by assumption) rfl) rfl rfl rfl ?_ | refine ALK.rg (fun hb => opr_loadK0 rfl (eB rfl) rfl (by assumption) rfl) rfl rfl rfl ?_ | refine ALK.rg (fun hb => opr_loadK rfl (eB rfl) rfl (by assumption) rfl) rfl rfl rfl ?_); (first | refine ALK.g (fun hb => opn_load rfl (eB rfl) rfl) rfl rfl rfl ?_ | refine ALK.rg (fun hb => opr_load rfl (eB rfl) rfl rfl) rfl rfl rfl ?_ | refine ALK.rg (fun hb => opr_loadRow rfl rfl (eB rfl) rfl (by assumption) rfl) rfl rfl rfl ?_ | refine ALK.rg (fun hb => opr_loadK0 rfl (eB rfl) rfl (by assumption) rfl) rfl rfl rfl ?_ | refine ALK.rg (fun hb => opr_loadK rfl (eB rfl) rfl (by assumption) rfl) rfl rfl rfl ?_); refine ALK.g (fun hb => opn_call (SameStates_fn _ _) (Evs.cons Ev.a (Evs.cons Ev.a Evs.nil))) rfl rfl rfl ?_; refine ALK.n (opn_pick_and (eB rfl) rfl (fun hb2 => by first | exact hb2 | (rw [hb, hb2]; rfl) | simp_all [gd]) rfl) rfl ?_; refine nA rfl rfl ?_; refine ALK.nil ?_; try show WP _ _ _ _ _ _)
    refine WP.ret ?_
    refine RetOk.one Try.results4 (ResV.tmp rfl (ImOf.im (ILe.bool ?_)))
    simp
set_option maxRecDepth 100000 in
theorem RestStates_bad (p : Plan) (s : StT) (x : StepT) (hB : TxsB p.txns) (h0 : ¬ checkState p s = 0) : Fn (Cfg.mk Try.prog (ttAt ttl) ttl_ok.ok mixd) 4 [planV p, stV s, stpV x] (IV.bool true) := by
  refine Fn.of_wp _ Try.func4 rfl (by kernel_rfl) Try.ntmps4 rfl ?_
  intro F hD hG
  ((repeat apply WP.seq); apply WP.lreg; refine ALK.n (opn_box (eB rfl) Cs.a rfl) rfl ?_; refine ALK.n (opn_box (eB rfl) Cs.a rfl) rfl ?_; refine ALK.n (opn_box (eB rfl) Cs.a rfl) rfl ?_; refine nA rfl rfl ?_; refine ALK.nil ?_; try show WP _ _ _ _ _ _)
  ((repeat apply WP.seq); apply WP.lreg; (first | refine ALK.n (opn_load rfl (eB rfl) rfl) rfl ?_ | refine ALK.r OpR.ld rfl ?_); (first | refine ALK.n (opn_load rfl (eB rfl) rfl) rfl ?_ | refine ALK.r OpR.ld rfl ?_); refine ALK.n (opn_call (R_CheckState_fn p s hB) (Evs.cons Ev.a (Evs.cons Ev.a Evs.nil))) rfl ?_; refine ALK.n OpN.cm rfl ?_; refine ALK.nil ?_; try show WP _ _ _ _ _ _)
  ((repeat apply WP.seq); refine WP.cond rfl (fun h => ?_) (fun h => ?_))
  · ((repeat apply WP.seq); apply WP.lreg; refine ALK.n (opn_call stepsBegun_fn Evs.nil) rfl ?_; refine nA rfl rfl ?_; refine ALK.nil ?_; try show WP _ _ _ _ _ _)
    ((repeat apply WP.seq); refine WP.ret ?_; first | exact RetOk.one Try.results4 ResV.a | exact RetOk.tup Try.results4 rfl ResVs.a)
  · exact absurd (by simpa using h) h0
theorem RestStates_fn (p : Plan) (s : StT) (x : StepT) (hB : TxsB p.txns) : Fn (Cfg.mk Try.prog (ttAt ttl) ttl_ok.ok mixd) 4 [planV p, stV s, stpV x] (IV.bool true) := by
  by_cases h0 : checkState p s = 0
  · by_cases hd : doE p s x = 0
    · exact RestStates_ok p s x hB (valid_iff.1 h0) hd
    · exact RestStates_no p s x hB (valid_iff.1 h0) hd
  · exact RestStates_bad p s x hB h0
end Go.Proofs.Ytjgmbgfcffnanac
