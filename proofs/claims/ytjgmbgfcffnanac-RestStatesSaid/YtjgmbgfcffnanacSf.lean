/- The laws' store. -/
import Derived.Test.YtjgmbgfcffnanacWStore
namespace Go.Proofs.Ytjgmbgfcffnanac
open Go.RowKit

set_option maxRecDepth 100000 in
theorem fiveS_fn : Fn (Cfg.mk Try.prog (ttAt ttl) ttl_ok.ok mixd) 54 [] (intsV st8) := by
  refine Fn.of_wp _ Try.func54 rfl (by kernel_rfl) Try.ntmps54 rfl ?_
  intro F hD hG
  ((repeat apply WP.seq); apply WP.lreg; refine nA rfl rfl ?_; refine ALK.nil ?_; try show WP _ _ _ _ _ _)
  ((repeat apply WP.seq); apply WP.lreg; refine ALK.n (opn_slit rfl rfl rfl rfl rfl rfl (Pc rfl (eB rfl) Cs.a rfl rfl (Pc rfl (eB rfl) Cs.a rfl rfl (Pc rfl (eB rfl) Cs.a rfl rfl (Pc rfl (eB rfl) Cs.a rfl rfl (Pc rfl (eB rfl) Cs.a rfl rfl (Pc rfl (eB rfl) Cs.a rfl rfl (Pc rfl (eB rfl) Cs.a rfl rfl (Pc rfl (eB rfl) Cs.a rfl rfl Parts.nil)))))))) rfl) rfl ?_; refine nA rfl rfl ?_; refine ALK.nil ?_; try show WP _ _ _ _ _ _)
  ((repeat apply WP.seq); refine WP.ret ?_; first | exact RetOk.one Try.results54 ResV.a | exact RetOk.tup Try.results54 rfl ResVs.a)
end Go.Proofs.Ytjgmbgfcffnanac
