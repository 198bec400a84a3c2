/- The reference: a plan out of bytes. -/
import Derived.Test.YtjgmbgfcffnanabWr
namespace Go.Proofs.Ytjgmbgfcffnanab
open Go.RowKit

abbrev eyeB (s : List UInt8) : HObj := .blk 124 [.im (IV.str s)]
set_option maxRecDepth 100000 in
theorem ref_byte_fn (s : List UInt8) : FnE (Cfg.mk Try.prog (ttAt ttl) ttl_ok.ok mixd) 67 1 [.off 0 0] [(0, eyeB s)] (.im (IV.int (byteE s).1)) [(0, eyeB (byteE s).2)] 1 [0] := by
  refine FnE.of_wp _ [(0, 0)] Try.func67 rfl (by kernel_rfl) Try.ntmps67 rfl rfl rfl rfl rfl rfl rfl rfl rfl ?_
  intro F vs hD hvs
  obtain ⟨v0, rfl⟩ := len1 hvs
  show WP _ _ _ _ _ ⟨[(0, .is v0 (.off 0 0))], [(0, eyeB s)], 1⟩
  ((repeat apply WP.seq); apply WP.lreg; refine nA rfl rfl ?_; refine ALK.nil ?_; try show WP _ _ _ _ _ _)
  ((repeat apply WP.seq); apply WP.lreg; refine ALK.n (opn_move (Ev.is rfl)) rfl ?_; (first | refine ALK.n (opn_nilPtr (eB rfl)) rfl ?_ | refine ALK.n (opn_nilOff (eB rfl)) rfl ?_); (first | refine ALK.n (opn_field (o := 0) rfl (eB rfl)) rfl ?_ | refine ALK.n (opn_fieldOff (o := 0) rfl (eB rfl)) rfl ?_); (first | refine ALK.n (opn_load rfl (eB rfl) rfl) rfl ?_ | refine ALK.r OpR.ld rfl ?_); refine ALK.n (opn_cmpS (b := []) (eB rfl) (eB rfl) rfl) rfl ?_; refine ALK.nil ?_; try show WP _ _ _ _ _ _)
  cases s with
  | nil =>
    ((repeat apply WP.seq); refine WP.cond rfl (fun h => ?_) (fun h => ?_))
    · ((repeat apply WP.seq); apply WP.lreg; refine nA rfl rfl ?_; refine ALK.nil ?_; try show WP _ _ _ _ _ _)
      ((repeat apply WP.seq); refine WP.ret ?_; first | exact RetOkE.none Try.results67 HSb.a Kept.a | exact RetOkE.one Try.results67 ResV.a HSb.a Kept.a | exact RetOkE.sv Try.results67 rfl HSb.a Kept.a | exact RetOkE.tup Try.results67 rfl ResVs.a HSb.a Kept.a)
    · cases h
  | cons b s =>
    ((repeat apply WP.seq); refine WP.cond rfl (fun h => ?_) (fun h => ?_))
    · cases h
    · (refine WP.skip ?_; show WP _ _ _ _ _ _)
      have hb : (b :: s)[(0 : Int).toNat]? = some b := rfl
      ((repeat apply WP.seq); apply WP.lreg; refine ALK.n (opn_move (Ev.is rfl)) rfl ?_; (first | refine ALK.n (opn_nilPtr (eB rfl)) rfl ?_ | refine ALK.n (opn_nilOff (eB rfl)) rfl ?_); (first | refine ALK.n (opn_field (o := 0) rfl (eB rfl)) rfl ?_ | refine ALK.n (opn_fieldOff (o := 0) rfl (eB rfl)) rfl ?_); (first | refine ALK.n (opn_load rfl (eB rfl) rfl) rfl ?_ | refine ALK.r OpR.ld rfl ?_); refine ALK.n (opn_indexStr rfl (eB rfl) (eB rfl) (by omega) (by assumption)) rfl ?_; (first | refine ALK.n (opn_toB (by kernel_rfl) (by kernel_rfl) (by kernel_rfl) (eB rfl)) rfl ?_ | refine ALK.n (opn_ofB (by kernel_rfl) (by kernel_rfl) (by kernel_rfl) (eB rfl)) rfl ?_); refine nA rfl rfl ?_; refine ALK.nil ?_; try show WP _ _ _ _ _ _)
      ((repeat apply WP.seq); apply WP.lreg; refine ALK.n (opn_move (Ev.is rfl)) rfl ?_; refine ALK.n (opn_move (Ev.is rfl)) rfl ?_; (first | refine ALK.n (opn_nilPtr (eB rfl)) rfl ?_ | refine ALK.n (opn_nilOff (eB rfl)) rfl ?_); (first | refine ALK.n (opn_field (o := 0) rfl (eB rfl)) rfl ?_ | refine ALK.n (opn_fieldOff (o := 0) rfl (eB rfl)) rfl ?_); (first | refine ALK.n (opn_load rfl (eB rfl) rfl) rfl ?_ | refine ALK.r OpR.ld rfl ?_); refine ALK.n (opn_sliceStr (k := 1) rfl (eB rfl) (eB rfl) (by simp)) rfl ?_; (first | refine ALK.n (opn_nilPtr (eB rfl)) rfl ?_ | refine ALK.n (opn_nilOff (eB rfl)) rfl ?_); (first | refine ALK.n (opn_field (o := 0) rfl (eB rfl)) rfl ?_ | refine ALK.n (opn_fieldOff (o := 0) rfl (eB rfl)) rfl ?_); (first | refine ALK.e (ope_store rfl (eB rfl) (eB rfl) Cs.a rfl rfl rfl) rfl rfl ?_ | refine ALK.e (ope_storeRow rfl rfl (eB rfl) (eB rfl) (oc_val rfl) rfl rfl (by assumption)) rfl rfl ?_); refine ALK.nil ?_; try show WP _ _ _ _ _ _)
      ((repeat apply WP.seq); apply WP.lreg; refine nM rfl rfl ?_; refine nA rfl rfl ?_; refine ALK.nil ?_; try show WP _ _ _ _ _ _)
      ((repeat apply WP.seq); refine WP.ret ?_; first | exact RetOkE.none Try.results67 HSb.a Kept.a | exact RetOkE.one Try.results67 ResV.a HSb.a Kept.a | exact RetOkE.sv Try.results67 rfl HSb.a Kept.a | exact RetOkE.tup Try.results67 rfl ResVs.a HSb.a Kept.a)
set_option maxRecDepth 100000 in
theorem ref_operand_fn (s : List UInt8) : FnE (Cfg.mk Try.prog (ttAt ttl) ttl_ok.ok mixd) 68 1 [.off 0 0] [(0, eyeB s)] (.im (IV.agg (cOp (opE s).1))) [(0, eyeB (opE s).2)] 1 [0] := by
  refine FnE.of_wp _ [(0, 0)] Try.func68 rfl (by kernel_rfl) Try.ntmps68 rfl rfl rfl rfl rfl rfl rfl rfl rfl ?_
  intro F vs hD hvs
  obtain ⟨v0, rfl⟩ := len1 hvs
  show WP _ _ _ _ _ ⟨[(0, .is v0 (.off 0 0))], [(0, eyeB s)], 1⟩
  ((repeat apply WP.seq); apply WP.lreg; refine ALK.a (opa_alloc rfl rfl) rfl ?_; refine ALK.nil ?_; try show WP _ _ _ _ _ _)
  ((repeat apply WP.seq); apply WP.lreg; refine ALK.n (opn_move (Ev.is rfl)) rfl ?_; refine ALK.e (ope_callE [0] (ref_byte_fn s) EvsS.a rfl rfl rfl HIn.a) rfl rfl ?_; (first | refine ALK.n (opn_build rfl rfl rfl rfl (Pc rfl (eB rfl) Cs.a rfl rfl Parts.nil)) rfl ?_ | refine ALK.n (opn_buildA rfl rfl rfl rfl rfl (Pc rfl (eB rfl) Cs.a rfl rfl Parts.nil)) rfl ?_); refine ALK.a (opa_alloc rfl rfl) rfl ?_; (first | refine ALK.e (ope_store rfl (eB rfl) (eB rfl) Cs.a rfl rfl rfl) rfl rfl ?_ | refine ALK.e (ope_storeRow rfl rfl (eB rfl) (eB rfl) (oc_val rfl) rfl rfl (by assumption)) rfl rfl ?_); refine ALK.nil ?_; try show WP _ _ _ _ _ _)
  ((repeat apply WP.seq); apply WP.lreg; refine nA rfl rfl ?_; refine ALK.nil ?_; try show WP _ _ _ _ _ _)
  ((repeat apply WP.seq); apply WP.block)
  refine WP.loop (fun k : Nat => ⟨[(4, .im (IV.int k)), (0, .is v0 (.off 0 0)), (2, .off 1 0), (3, .off 2 0)], [(0, eyeB (numE k (byteE s).2).2), (1, .blk 57 [.im (IV.int 0), .im (IV.int 0)]), (2, .blk 57 [.im (IV.int (byteE s).1), .im (IV.int (numE k (byteE s).2).1)])], 3⟩) (fun k => k ≤ 8) (fun k => 8 - k) 0 (Nat.zero_le _) (Shift.sub [(0, 0), (1, 1), (2, 2)] rfl SubE.a (SubH.cons rfl rfl (ObLe.blk SLes.a) (SubH.cons rfl rfl (ObLe.blk SLes.a) (SubH.cons rfl rfl (ObLe.blk SLes.a) SubH.nil)))) ?_
  rintro k hk
  ((repeat apply WP.seq); apply WP.lreg; refine nM rfl rfl ?_; refine ALK.n OpN.cm rfl ?_; refine ALK.nil ?_; try show WP _ _ _ _ _ _)
  ((repeat apply WP.seq); refine WP.cond rfl (fun h => ?_) (fun h => ?_))
  · (refine WP.skip ?_; show WP _ _ _ _ _ _)
    have hk8 : k < 8 := by simp at h; omega
    have hb := ok_byte (numE k (byteE s).2).2
    unfold IsB at hb
    ((repeat apply WP.seq); apply WP.block)
    ((repeat apply WP.seq); apply WP.lreg; refine ALK.n (opn_move (Ev.is rfl)) rfl ?_; refine ALK.e (ope_callE [0] (ref_byte_fn (numE k (byteE s).2).2) EvsS.a rfl rfl rfl HIn.a) rfl rfl ?_; refine nA rfl rfl ?_; refine ALK.nil ?_; try show WP _ _ _ _ _ _)
    ((repeat apply WP.seq); apply WP.lreg; (first | refine ALK.n (opn_field (o := 1) rfl (eB rfl)) rfl ?_ | refine ALK.n (opn_fieldOff (o := 1) rfl (eB rfl)) rfl ?_); (first | refine ALK.n (opn_load rfl (eB rfl) rfl) rfl ?_ | refine ALK.r OpR.ld rfl ?_); refine ALK.n (opn_shl (n := 8) (eB rfl) (eB rfl) rfl (by omega)) rfl ?_; refine nM rfl rfl ?_; refine ALK.n (opn_or8 (a := (numE k (byteE s).2).1) (eB rfl) (eB rfl) rfl (by omega) (by omega)) rfl ?_; (first | refine ALK.n (opn_field (o := 1) rfl (eB rfl)) rfl ?_ | refine ALK.n (opn_fieldOff (o := 1) rfl (eB rfl)) rfl ?_); (first | refine ALK.e (ope_store rfl (eB rfl) (eB rfl) Cs.a rfl rfl rfl) rfl rfl ?_ | refine ALK.e (ope_storeRow rfl rfl (eB rfl) (eB rfl) (oc_val rfl) rfl rfl (by assumption)) rfl rfl ?_); refine ALK.nil ?_; try show WP _ _ _ _ _ _)
    ((repeat apply WP.seq); apply WP.lreg; refine nM rfl rfl ?_; refine ALK.n OpN.ar rfl ?_; refine nA rfl rfl ?_; refine ALK.nil ?_; try show WP _ _ _ _ _ _)
    show ∃ _, _ ∧ _ ∧ _
    exact ⟨k + 1, by omega, by omega, Shift.sub [(0, 0), (1, 1), (2, 2)] rfl SubE.a (SubH.cons rfl rfl (ObLe.blk SLes.a) (SubH.cons rfl rfl (ObLe.blk SLes.a) (SubH.cons rfl rfl (ObLe.blk SLes.a) SubH.nil)))⟩
  · ((repeat apply WP.seq); refine WP.exit ?_; show WP _ _ _ _ _ _)
    have hk8 : k = 8 := by simp at h; omega
    subst hk8
    ((repeat apply WP.seq); apply WP.lreg; (first | refine ALK.n (opn_load rfl (eB rfl) rfl) rfl ?_ | refine ALK.r OpR.ld rfl ?_); (first | refine ALK.e (ope_store rfl (eB rfl) (eB rfl) Cs.a rfl rfl rfl) rfl rfl ?_ | refine ALK.e (ope_storeRow rfl rfl (eB rfl) (eB rfl) (oc_val rfl) rfl rfl (by assumption)) rfl rfl ?_); refine ALK.nil ?_; try show WP _ _ _ _ _ _)
    ((repeat apply WP.seq); refine WP.ret ?_; first | exact RetOkE.none Try.results68 HSb.a Kept.a | exact RetOkE.one Try.results68 ResV.a HSb.a Kept.a | exact RetOkE.sv Try.results68 rfl HSb.a Kept.a | exact RetOkE.tup Try.results68 rfl ResVs.a HSb.a Kept.a)
end Go.Proofs.Ytjgmbgfcffnanab
