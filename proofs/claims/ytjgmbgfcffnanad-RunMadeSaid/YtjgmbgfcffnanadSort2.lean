/- slices.SortFunc at few locks. -/
import Derived.Test.YtjgmbgfcffnanadSort
namespace Go.Proofs.Ytjgmbgfcffnanad
open Go.RowKit

theorem len5 {α : Type} {l : List α} (h : l.length = 5) : ∃ a b c d e, l = [a, b, c, d, e] := by
  match l, h with
  | [a, b, c, d, e], _ => exact ⟨a, b, c, d, e, rfl⟩
set_option maxRecDepth 100000 in
theorem pdq_fn (xs : List LockT) (hn : xs.length ≤ 12) (f : FuncId) (hf : ∀ x y : LockT, Fn (Cfg.mk Try.prog (ttAt ttl) ttl_ok.ok mixd) f [IV.agg (cL x), IV.agg (cL y)] (IV.int (cmpN x.key y.key))) :
    FnE (Cfg.mk Try.prog (ttAt ttl) ttl_ok.ok mixd) 73 1 [.row 0 xs.length, .im (IV.int 0), .im (IV.int xs.length), .im IV.any, .im (IV.fn f [])] [(0, .row 102 2 cL xs)] (.im (IV.tup [])) [(0, .row 102 2 cL (isort xs))] 1 [0] := by
  refine FnE.of_wp _ [(0, 0)] Try.func73 rfl (by kernel_rfl) Try.ntmps73 rfl rfl rfl rfl rfl rfl rfl rfl rfl ?_
  intro F vs hD hvs
  obtain ⟨v0, v1, v2, v3, v4, rfl⟩ := len5 hvs
  show WP _ _ _ _ _ ⟨[(0, .is v0 (.row 0 xs.length)), (1, .im (IV.int 0)), (2, .im (IV.int xs.length)), (3, .im IV.any), (4, .im (IV.fn f []))], [(0, .row 102 2 cL xs)], 1⟩
  ((repeat apply WP.seq); apply WP.lreg; refine nA rfl rfl ?_; refine ALK.nil ?_; try show WP _ _ _ _ _ _)
  ((repeat apply WP.seq); apply WP.lreg; refine nA rfl rfl ?_; refine ALK.nil ?_; try show WP _ _ _ _ _ _)
  ((repeat apply WP.seq); apply WP.block)
  refine WP.loop (fun _ : Unit => ⟨[(0, .is v0 (.row 0 xs.length)), (1, .im (IV.int 0)), (2, .im (IV.int xs.length)), (4, .im (IV.fn f []))], [(0, .row 102 2 cL xs)], 1⟩) (fun _ => True) (fun _ => 0) () trivial (Shift.sub [(0, 0)] rfl SubE.a SubH.a) ?_
  rintro _ _
  ((repeat apply WP.seq); apply WP.block)
  ((repeat apply WP.seq); apply WP.lreg; refine nM rfl rfl ?_; refine nM rfl rfl ?_; refine ALK.n OpN.ar rfl ?_; refine nA rfl rfl ?_; refine ALK.nil ?_; try show WP _ _ _ _ _ _)
  ((repeat apply WP.seq); apply WP.lreg; refine nM rfl rfl ?_; refine ALK.n OpN.cm rfl ?_; refine ALK.nil ?_; try show WP _ _ _ _ _ _)
  ((repeat apply WP.seq); refine WP.cond rfl (fun h => ?_) (fun h => ?_))
  · ((repeat apply WP.seq); apply WP.lreg; refine ALK.n (opn_move (Ev.is rfl)) rfl ?_; refine nM rfl rfl ?_; refine nM rfl rfl ?_; refine nM rfl rfl ?_; refine ALK.e (ope_callE [0] (insertion_fn xs hn f hf) EvsS.a rfl rfl rfl HIn.a) rfl rfl ?_; refine ALK.nil ?_; try show WP _ _ _ _ _ _)
    ((repeat apply WP.seq); refine WP.ret ?_; first | exact RetOkE.none Try.results73 HSb.a Kept.a | exact RetOkE.one Try.results73 ResV.a HSb.a Kept.a | exact RetOkE.sv Try.results73 rfl HSb.a Kept.a | exact RetOkE.tup Try.results73 rfl ResVs.a HSb.a Kept.a)
  · exfalso
    simp at h
    omega

set_option maxRecDepth 100000 in
theorem SortFunc_fn (xs : List LockT) (hn : xs.length ≤ 12) (f : FuncId) (hf : ∀ x y : LockT, Fn (Cfg.mk Try.prog (ttAt ttl) ttl_ok.ok mixd) f [IV.agg (cL x), IV.agg (cL y)] (IV.int (cmpN x.key y.key))) :
    FnE (Cfg.mk Try.prog (ttAt ttl) ttl_ok.ok mixd) 64 1 [.row 0 xs.length, .im (IV.fn f [])] [(0, .row 102 2 cL xs)] (.im (IV.tup [])) [(0, .row 102 2 cL (isort xs))] 1 [0] := by
  refine FnE.of_wp _ [(0, 0)] Try.func64 rfl (by kernel_rfl) Try.ntmps64 rfl rfl rfl rfl rfl rfl rfl rfl rfl ?_
  intro F vs hD hvs
  obtain ⟨v0, v1, rfl⟩ := len2 hvs
  show WP _ _ _ _ _ ⟨[(0, .is v0 (.row 0 xs.length)), (1, .im (IV.fn f []))], [(0, .row 102 2 cL xs)], 1⟩
  ((repeat apply WP.seq); apply WP.lreg; refine ALK.n (opn_move (Ev.is rfl)) rfl ?_; refine ALK.n OpN.ln rfl ?_; refine nA rfl rfl ?_; refine ALK.nil ?_; try show WP _ _ _ _ _ _)
  ((repeat apply WP.seq); apply WP.lreg; refine ALK.n (opn_move (Ev.is rfl)) rfl ?_; refine nM rfl rfl ?_; refine nM rfl rfl ?_; refine ALK.n (opn_conv (k := .u64) (m := (xs.length : Int)) (by kernel_rfl) (by kernel_rfl) (by kernel_rfl) (by rw [IntKind.wrap_u64]; omega) (eB rfl)) rfl ?_; refine ALK.n (opn_call (bits_Len_fn (xs.length : Int) (by omega) (by omega)) (Evs.cons Ev.a Evs.nil)) rfl ?_; refine nM rfl rfl ?_; refine ALK.e (ope_callE [0] (pdq_fn xs hn f hf) EvsS.a rfl rfl rfl HIn.a) rfl rfl ?_; refine ALK.nil ?_; try show WP _ _ _ _ _ _)
  exact RetOkE.none Try.results64 HSb.a Kept.a
end Go.Proofs.Ytjgmbgfcffnanad
