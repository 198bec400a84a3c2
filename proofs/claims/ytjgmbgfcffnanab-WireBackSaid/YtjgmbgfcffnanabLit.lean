/- The laws' own transactions and plans. -/
import Derived.Test.YtjgmbgfcffnanabPl
namespace Go.Proofs.Ytjgmbgfcffnanab
open Go.RowKit

abbrev opV (k n : Int) : IV := IV.agg [IV.int k, IV.int n]
def payT (n : Int) : Txn := ⟨[0, 1], [⟨4, ⟨1, n⟩, ⟨2, 0⟩⟩], [⟨0, 3, ⟨2, 0⟩, ⟨1, n⟩⟩, ⟨1, 2, ⟨2, 1⟩, ⟨1, n⟩⟩]⟩
def noteT : Txn := ⟨[1], [], [⟨5, 1, ⟨2, 0⟩, ⟨1, 0⟩⟩]⟩
def markT (n : Int) : Txn := ⟨[], [], [⟨7, 1, ⟨1, n⟩, ⟨1, 0⟩⟩]⟩
def threeP : Plan := ⟨2, [payT 3, noteT, markT 9]⟩
theorem payB (n : Int) : TxnB (payT n) := by unfold TxnB; simp [payT]
theorem noteB : TxnB noteT := by unfold TxnB; simp [noteT]
theorem markB (n : Int) : TxnB (markT n) := by unfold TxnB; simp [markT]
theorem TxsB.nil : TxsB [] := fun t h => by cases h
theorem TxsB.cons {t : Txn} {l : List Txn} (h : TxnB t) (k : TxsB l) : TxsB (t :: l) := fun x hx => (List.mem_cons.1 hx).elim (fun e => e ▸ h) (k x)
theorem threeB : TxsB threeP.txns := .cons (payB 3) (.cons noteB (.cons (markB 9) .nil))

set_option maxRecDepth 100000 in
theorem number_fn (n : Int) : Fn (Cfg.mk Try.prog (ttAt ttl) ttl_ok.ok mixd) 104 [IV.int n] (opV 1 n) := by
  refine Fn.of_wp _ Try.func104 rfl (by kernel_rfl) Try.ntmps104 rfl ?_
  intro F hD hG
  ((repeat apply WP.seq); apply WP.lreg; refine ALK.a (opa_alloc rfl rfl) rfl ?_; refine ALK.nil ?_; try show WP _ _ _ _ _ _)
  ((repeat apply WP.seq); apply WP.lreg; refine nM rfl rfl ?_; (first | refine ALK.n (opn_build rfl rfl rfl rfl (Pc rfl (eB rfl) Cs.a rfl rfl (Pc rfl (eB rfl) Cs.a rfl rfl Parts.nil))) rfl ?_ | refine ALK.n (opn_buildA rfl rfl rfl rfl rfl (Pc rfl (eB rfl) Cs.a rfl rfl (Pc rfl (eB rfl) Cs.a rfl rfl Parts.nil))) rfl ?_); (first | refine ALK.e (ope_store rfl (eB rfl) (eB rfl) Cs.a rfl rfl rfl) rfl rfl ?_ | refine ALK.e (ope_storeRow rfl rfl (eB rfl) (eB rfl) (oc_val rfl) rfl rfl (by assumption)) rfl rfl ?_); refine ALK.nil ?_; try show WP _ _ _ _ _ _)
  ((repeat apply WP.seq); refine WP.ret ?_; first | exact RetOk.one Try.results104 ResV.a | exact RetOk.tup Try.results104 rfl ResVs.a)
set_option maxRecDepth 100000 in
theorem value_fn (n : Int) : Fn (Cfg.mk Try.prog (ttAt ttl) ttl_ok.ok mixd) 105 [IV.int n] (opV 2 n) := by
  refine Fn.of_wp _ Try.func105 rfl (by kernel_rfl) Try.ntmps105 rfl ?_
  intro F hD hG
  ((repeat apply WP.seq); apply WP.lreg; refine ALK.a (opa_alloc rfl rfl) rfl ?_; refine ALK.nil ?_; try show WP _ _ _ _ _ _)
  ((repeat apply WP.seq); apply WP.lreg; refine nM rfl rfl ?_; (first | refine ALK.n (opn_build rfl rfl rfl rfl (Pc rfl (eB rfl) Cs.a rfl rfl (Pc rfl (eB rfl) Cs.a rfl rfl Parts.nil))) rfl ?_ | refine ALK.n (opn_buildA rfl rfl rfl rfl rfl (Pc rfl (eB rfl) Cs.a rfl rfl (Pc rfl (eB rfl) Cs.a rfl rfl Parts.nil))) rfl ?_); (first | refine ALK.e (ope_store rfl (eB rfl) (eB rfl) Cs.a rfl rfl rfl) rfl rfl ?_ | refine ALK.e (ope_storeRow rfl rfl (eB rfl) (eB rfl) (oc_val rfl) rfl rfl (by assumption)) rfl rfl ?_); refine ALK.nil ?_; try show WP _ _ _ _ _ _)
  ((repeat apply WP.seq); refine WP.ret ?_; first | exact RetOk.one Try.results105 ResV.a | exact RetOk.tup Try.results105 rfl ResVs.a)
set_option maxRecDepth 100000 in
theorem pay_fn (n : Int) : Fn (Cfg.mk Try.prog (ttAt ttl) ttl_ok.ok mixd) 74 [IV.int n] (txnV (payT n)) := by
  refine Fn.of_wp _ Try.func74 rfl (by kernel_rfl) Try.ntmps74 rfl ?_
  intro F hD hG
  ((repeat apply WP.seq); apply WP.lreg; refine ALK.a (opa_alloc rfl rfl) rfl ?_; refine ALK.nil ?_; try show WP _ _ _ _ _ _)
  ((repeat apply WP.seq); apply WP.lreg; refine ALK.n (opn_slit rfl rfl rfl rfl rfl rfl (Pc rfl (eB rfl) Cs.a rfl rfl (Pc rfl (eB rfl) Cs.a rfl rfl Parts.nil)) rfl) rfl ?_; refine nM rfl rfl ?_; refine ALK.n (opn_call (number_fn _) (Evs.cons Ev.a Evs.nil)) rfl ?_; refine ALK.n (opn_call (value_fn _) (Evs.cons Ev.a Evs.nil)) rfl ?_; (first | refine ALK.n (opn_build rfl rfl rfl rfl (Pc rfl (eB rfl) Cs.a rfl rfl (Pc rfl (eB rfl) Cs.a rfl rfl (Pc rfl (eB rfl) Cs.a rfl rfl Parts.nil)))) rfl ?_ | refine ALK.n (opn_buildA rfl rfl rfl rfl rfl (Pc rfl (eB rfl) Cs.a rfl rfl (Pc rfl (eB rfl) Cs.a rfl rfl (Pc rfl (eB rfl) Cs.a rfl rfl Parts.nil)))) rfl ?_); refine ALK.n (opn_slit rfl rfl rfl rfl rfl rfl (Pc rfl (eB rfl) Cs.a rfl rfl Parts.nil) rfl) rfl ?_; refine ALK.n (opn_call (value_fn _) (Evs.cons Ev.a Evs.nil)) rfl ?_; refine nM rfl rfl ?_; refine ALK.n (opn_call (number_fn _) (Evs.cons Ev.a Evs.nil)) rfl ?_; (first | refine ALK.n (opn_build rfl rfl rfl rfl (Pc rfl (eB rfl) Cs.a rfl rfl (Pc rfl (eB rfl) Cs.a rfl rfl (Pc rfl (eB rfl) Cs.a rfl rfl (Pc rfl (eB rfl) Cs.a rfl rfl Parts.nil))))) rfl ?_ | refine ALK.n (opn_buildA rfl rfl rfl rfl rfl (Pc rfl (eB rfl) Cs.a rfl rfl (Pc rfl (eB rfl) Cs.a rfl rfl (Pc rfl (eB rfl) Cs.a rfl rfl (Pc rfl (eB rfl) Cs.a rfl rfl Parts.nil))))) rfl ?_); refine ALK.n (opn_call (value_fn _) (Evs.cons Ev.a Evs.nil)) rfl ?_; refine nM rfl rfl ?_; refine ALK.n (opn_call (number_fn _) (Evs.cons Ev.a Evs.nil)) rfl ?_; (first | refine ALK.n (opn_build rfl rfl rfl rfl (Pc rfl (eB rfl) Cs.a rfl rfl (Pc rfl (eB rfl) Cs.a rfl rfl (Pc rfl (eB rfl) Cs.a rfl rfl (Pc rfl (eB rfl) Cs.a rfl rfl Parts.nil))))) rfl ?_ | refine ALK.n (opn_buildA rfl rfl rfl rfl rfl (Pc rfl (eB rfl) Cs.a rfl rfl (Pc rfl (eB rfl) Cs.a rfl rfl (Pc rfl (eB rfl) Cs.a rfl rfl (Pc rfl (eB rfl) Cs.a rfl rfl Parts.nil))))) rfl ?_); refine ALK.n (opn_slit rfl rfl rfl rfl rfl rfl (Pc rfl (eB rfl) Cs.a rfl rfl (Pc rfl (eB rfl) Cs.a rfl rfl Parts.nil)) rfl) rfl ?_; (first | refine ALK.n (opn_build rfl rfl rfl rfl (Pc rfl (eB rfl) Cs.a rfl rfl (Pc rfl (eB rfl) Cs.a rfl rfl (Pc rfl (eB rfl) Cs.a rfl rfl Parts.nil)))) rfl ?_ | refine ALK.n (opn_buildA rfl rfl rfl rfl rfl (Pc rfl (eB rfl) Cs.a rfl rfl (Pc rfl (eB rfl) Cs.a rfl rfl (Pc rfl (eB rfl) Cs.a rfl rfl Parts.nil)))) rfl ?_); (first | refine ALK.e (ope_store rfl (eB rfl) (eB rfl) Cs.a rfl rfl rfl) rfl rfl ?_ | refine ALK.e (ope_storeRow rfl rfl (eB rfl) (eB rfl) (oc_val rfl) rfl rfl (by assumption)) rfl rfl ?_); refine ALK.nil ?_; try show WP _ _ _ _ _ _)
  ((repeat apply WP.seq); refine WP.ret ?_; first | exact RetOk.one Try.results74 ResV.a | exact RetOk.tup Try.results74 rfl ResVs.a)
set_option maxRecDepth 100000 in
theorem note_fn : Fn (Cfg.mk Try.prog (ttAt ttl) ttl_ok.ok mixd) 75 [] (txnV noteT) := by
  refine Fn.of_wp _ Try.func75 rfl (by kernel_rfl) Try.ntmps75 rfl ?_
  intro F hD hG
  ((repeat apply WP.seq); apply WP.lreg; refine ALK.a (opa_alloc rfl rfl) rfl ?_; refine ALK.nil ?_; try show WP _ _ _ _ _ _)
  ((repeat apply WP.seq); apply WP.lreg; refine ALK.n (opn_slit rfl rfl rfl rfl rfl rfl (Pc rfl (eB rfl) Cs.a rfl rfl Parts.nil) rfl) rfl ?_; refine ALK.n (opn_call (value_fn _) (Evs.cons Ev.a Evs.nil)) rfl ?_; refine ALK.n (opn_call (number_fn _) (Evs.cons Ev.a Evs.nil)) rfl ?_; (first | refine ALK.n (opn_build rfl rfl rfl rfl (Pc rfl (eB rfl) Cs.a rfl rfl (Pc rfl (eB rfl) Cs.a rfl rfl (Pc rfl (eB rfl) Cs.a rfl rfl (Pc rfl (eB rfl) Cs.a rfl rfl Parts.nil))))) rfl ?_ | refine ALK.n (opn_buildA rfl rfl rfl rfl rfl (Pc rfl (eB rfl) Cs.a rfl rfl (Pc rfl (eB rfl) Cs.a rfl rfl (Pc rfl (eB rfl) Cs.a rfl rfl (Pc rfl (eB rfl) Cs.a rfl rfl Parts.nil))))) rfl ?_); refine ALK.n (opn_slit rfl rfl rfl rfl rfl rfl (Pc rfl (eB rfl) Cs.a rfl rfl Parts.nil) rfl) rfl ?_; (first | refine ALK.n (opn_build rfl rfl rfl rfl (Pc rfl (eB rfl) Cs.a rfl rfl (Pc rfl (eB rfl) Cs.a rfl rfl Parts.nil))) rfl ?_ | refine ALK.n (opn_buildA rfl rfl rfl rfl rfl (Pc rfl (eB rfl) Cs.a rfl rfl (Pc rfl (eB rfl) Cs.a rfl rfl Parts.nil))) rfl ?_); (first | refine ALK.e (ope_store rfl (eB rfl) (eB rfl) Cs.a rfl rfl rfl) rfl rfl ?_ | refine ALK.e (ope_storeRow rfl rfl (eB rfl) (eB rfl) (oc_val rfl) rfl rfl (by assumption)) rfl rfl ?_); refine ALK.nil ?_; try show WP _ _ _ _ _ _)
  ((repeat apply WP.seq); refine WP.ret ?_; first | exact RetOk.one Try.results75 ResV.a | exact RetOk.tup Try.results75 rfl ResVs.a)
set_option maxRecDepth 100000 in
theorem mark_fn (n : Int) : Fn (Cfg.mk Try.prog (ttAt ttl) ttl_ok.ok mixd) 76 [IV.int n] (txnV (markT n)) := by
  refine Fn.of_wp _ Try.func76 rfl (by kernel_rfl) Try.ntmps76 rfl ?_
  intro F hD hG
  ((repeat apply WP.seq); apply WP.lreg; refine ALK.a (opa_alloc rfl rfl) rfl ?_; refine ALK.nil ?_; try show WP _ _ _ _ _ _)
  ((repeat apply WP.seq); apply WP.lreg; refine nM rfl rfl ?_; refine ALK.n (opn_call (number_fn _) (Evs.cons Ev.a Evs.nil)) rfl ?_; refine ALK.n (opn_call (number_fn _) (Evs.cons Ev.a Evs.nil)) rfl ?_; (first | refine ALK.n (opn_build rfl rfl rfl rfl (Pc rfl (eB rfl) Cs.a rfl rfl (Pc rfl (eB rfl) Cs.a rfl rfl (Pc rfl (eB rfl) Cs.a rfl rfl (Pc rfl (eB rfl) Cs.a rfl rfl Parts.nil))))) rfl ?_ | refine ALK.n (opn_buildA rfl rfl rfl rfl rfl (Pc rfl (eB rfl) Cs.a rfl rfl (Pc rfl (eB rfl) Cs.a rfl rfl (Pc rfl (eB rfl) Cs.a rfl rfl (Pc rfl (eB rfl) Cs.a rfl rfl Parts.nil))))) rfl ?_); refine ALK.n (opn_slit rfl rfl rfl rfl rfl rfl (Pc rfl (eB rfl) Cs.a rfl rfl Parts.nil) rfl) rfl ?_; (first | refine ALK.n (opn_build rfl rfl rfl rfl (Pc rfl (eB rfl) Cs.a rfl rfl Parts.nil)) rfl ?_ | refine ALK.n (opn_buildA rfl rfl rfl rfl rfl (Pc rfl (eB rfl) Cs.a rfl rfl Parts.nil)) rfl ?_); (first | refine ALK.e (ope_store rfl (eB rfl) (eB rfl) Cs.a rfl rfl rfl) rfl rfl ?_ | refine ALK.e (ope_storeRow rfl rfl (eB rfl) (eB rfl) (oc_val rfl) rfl rfl (by assumption)) rfl rfl ?_); refine ALK.nil ?_; try show WP _ _ _ _ _ _)
  ((repeat apply WP.seq); refine WP.ret ?_; first | exact RetOk.one Try.results76 ResV.a | exact RetOk.tup Try.results76 rfl ResVs.a)
set_option maxRecDepth 100000 in
theorem three_fn : Fn (Cfg.mk Try.prog (ttAt ttl) ttl_ok.ok mixd) 66 [] (planV threeP) := by
  refine Fn.of_wp _ Try.func66 rfl (by kernel_rfl) Try.ntmps66 rfl ?_
  intro F hD hG
  ((repeat apply WP.seq); apply WP.lreg; refine ALK.a (opa_alloc rfl rfl) rfl ?_; refine ALK.nil ?_; try show WP _ _ _ _ _ _)
  ((repeat apply WP.seq); apply WP.lreg; refine ALK.n (opn_call (pay_fn _) (Evs.cons Ev.a Evs.nil)) rfl ?_; refine ALK.n (opn_call (note_fn) Evs.nil) rfl ?_; refine ALK.n (opn_call (mark_fn _) (Evs.cons Ev.a Evs.nil)) rfl ?_; refine ALK.n (opn_slit rfl rfl rfl rfl rfl rfl (Pc rfl (eB rfl) Cs.a rfl rfl (Pc rfl (eB rfl) Cs.a rfl rfl (Pc rfl (eB rfl) Cs.a rfl rfl Parts.nil))) rfl) rfl ?_; (first | refine ALK.n (opn_build rfl rfl rfl rfl (Pc rfl (eB rfl) Cs.a rfl rfl (Pc rfl (eB rfl) Cs.a rfl rfl Parts.nil))) rfl ?_ | refine ALK.n (opn_buildA rfl rfl rfl rfl rfl (Pc rfl (eB rfl) Cs.a rfl rfl (Pc rfl (eB rfl) Cs.a rfl rfl Parts.nil))) rfl ?_); (first | refine ALK.e (ope_store rfl (eB rfl) (eB rfl) Cs.a rfl rfl rfl) rfl rfl ?_ | refine ALK.e (ope_storeRow rfl rfl (eB rfl) (eB rfl) (oc_val rfl) rfl rfl (by assumption)) rfl rfl ?_); refine ALK.nil ?_; try show WP _ _ _ _ _ _)
  ((repeat apply WP.seq); refine WP.ret ?_; first | exact RetOk.one Try.results66 ResV.a | exact RetOk.tup Try.results66 rfl ResVs.a)
end Go.Proofs.Ytjgmbgfcffnanab
