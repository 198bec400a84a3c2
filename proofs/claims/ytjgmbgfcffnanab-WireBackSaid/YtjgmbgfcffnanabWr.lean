/- The reference: a plan as bytes. -/
import Derived.Test.YtjgmbgfcffnanabWw
namespace Go.Proofs.Ytjgmbgfcffnanab
open Go.RowKit

theorem shrI_0 (n : Int) : shrI n 0 = n := by rw [shr_div]; simp
set_option maxRecDepth 100000 in
theorem ref_eight_fn (n : Int) : Fn (Cfg.mk Try.prog (ttAt ttl) ttl_ok.ok mixd) 101 [IV.int n] (bytesV (eightB n)) := by
  refine Fn.of_wp _ Try.func101 rfl (by kernel_rfl) Try.ntmps101 rfl ?_
  intro F hD hG
  ((repeat apply WP.seq); apply WP.lreg; refine nA rfl rfl ?_; refine ALK.nil ?_; try show WP _ _ _ _ _ _)
  ((repeat apply WP.seq); apply WP.lreg; refine nM rfl rfl ?_; refine ALK.n (opn_shr (n := 56) (eB rfl) (eB rfl) rfl (by omega)) rfl ?_; (first | refine ALK.n (opn_toB (by kernel_rfl) (by kernel_rfl) (by kernel_rfl) (eB rfl)) rfl ?_ | refine ALK.n (opn_ofB (by kernel_rfl) (by kernel_rfl) (by kernel_rfl) (eB rfl)) rfl ?_); refine nM rfl rfl ?_; refine ALK.n (opn_shr (n := 48) (eB rfl) (eB rfl) rfl (by omega)) rfl ?_; (first | refine ALK.n (opn_toB (by kernel_rfl) (by kernel_rfl) (by kernel_rfl) (eB rfl)) rfl ?_ | refine ALK.n (opn_ofB (by kernel_rfl) (by kernel_rfl) (by kernel_rfl) (eB rfl)) rfl ?_); refine nM rfl rfl ?_; refine ALK.n (opn_shr (n := 40) (eB rfl) (eB rfl) rfl (by omega)) rfl ?_; (first | refine ALK.n (opn_toB (by kernel_rfl) (by kernel_rfl) (by kernel_rfl) (eB rfl)) rfl ?_ | refine ALK.n (opn_ofB (by kernel_rfl) (by kernel_rfl) (by kernel_rfl) (eB rfl)) rfl ?_); refine nM rfl rfl ?_; refine ALK.n (opn_shr (n := 32) (eB rfl) (eB rfl) rfl (by omega)) rfl ?_; (first | refine ALK.n (opn_toB (by kernel_rfl) (by kernel_rfl) (by kernel_rfl) (eB rfl)) rfl ?_ | refine ALK.n (opn_ofB (by kernel_rfl) (by kernel_rfl) (by kernel_rfl) (eB rfl)) rfl ?_); refine nM rfl rfl ?_; refine ALK.n (opn_shr (n := 24) (eB rfl) (eB rfl) rfl (by omega)) rfl ?_; (first | refine ALK.n (opn_toB (by kernel_rfl) (by kernel_rfl) (by kernel_rfl) (eB rfl)) rfl ?_ | refine ALK.n (opn_ofB (by kernel_rfl) (by kernel_rfl) (by kernel_rfl) (eB rfl)) rfl ?_); refine nM rfl rfl ?_; refine ALK.n (opn_shr (n := 16) (eB rfl) (eB rfl) rfl (by omega)) rfl ?_; (first | refine ALK.n (opn_toB (by kernel_rfl) (by kernel_rfl) (by kernel_rfl) (eB rfl)) rfl ?_ | refine ALK.n (opn_ofB (by kernel_rfl) (by kernel_rfl) (by kernel_rfl) (eB rfl)) rfl ?_); refine nM rfl rfl ?_; refine ALK.n (opn_shr (n := 8) (eB rfl) (eB rfl) rfl (by omega)) rfl ?_; (first | refine ALK.n (opn_toB (by kernel_rfl) (by kernel_rfl) (by kernel_rfl) (eB rfl)) rfl ?_ | refine ALK.n (opn_ofB (by kernel_rfl) (by kernel_rfl) (by kernel_rfl) (eB rfl)) rfl ?_); refine nM rfl rfl ?_; refine ALK.n (s := .im (IV.val (.int .u8 ((byteOf (shrI n 0)).toNat : Int)))) (by rw [shrI_0]; exact opn_toB (by kernel_rfl) (by kernel_rfl) (by kernel_rfl) (eB rfl)) rfl ?_; refine ALK.n (opn_slit rfl rfl rfl rfl rfl rfl (Pc rfl (eB rfl) Cs.a rfl rfl (Pc rfl (eB rfl) Cs.a rfl rfl (Pc rfl (eB rfl) Cs.a rfl rfl (Pc rfl (eB rfl) Cs.a rfl rfl (Pc rfl (eB rfl) Cs.a rfl rfl (Pc rfl (eB rfl) Cs.a rfl rfl (Pc rfl (eB rfl) Cs.a rfl rfl (Pc rfl (eB rfl) Cs.a rfl rfl Parts.nil)))))))) rfl) rfl ?_; refine nA rfl rfl ?_; refine ALK.nil ?_; try show WP _ _ _ _ _ _)
  ((repeat apply WP.seq); refine WP.ret ?_; first | exact RetOk.one Try.results101 ResV.a | exact RetOk.tup Try.results101 rfl ResVs.a)
set_option maxRecDepth 100000 in
theorem ref_operandBytes_fn (o : Ytjgmbgfcffnanab.Operand) : Fn (Cfg.mk Try.prog (ttAt ttl) ttl_ok.ok mixd) 54 [IV.agg (cOp o)] (bytesV (bOp o)) := by
  refine Fn.of_wp _ Try.func54 rfl (by kernel_rfl) Try.ntmps54 rfl ?_
  intro F hD hG
  ((repeat apply WP.seq); apply WP.lreg; refine ALK.n (opn_box (eB rfl) Cs.a rfl) rfl ?_; refine nA rfl rfl ?_; refine ALK.nil ?_; try show WP _ _ _ _ _ _)
  ((repeat apply WP.seq); apply WP.ldraw; (first | refine ALK.n (opn_field (o := 0) rfl (eB rfl)) rfl ?_ | refine ALK.n (opn_fieldOff (o := 0) rfl (eB rfl)) rfl ?_); (first | refine ALK.n (opn_load rfl (eB rfl) rfl) rfl ?_ | refine ALK.r OpR.ld rfl ?_); (first | refine ALK.n (opn_toB (by kernel_rfl) (by kernel_rfl) (by kernel_rfl) (eB rfl)) rfl ?_ | refine ALK.n (opn_ofB (by kernel_rfl) (by kernel_rfl) (by kernel_rfl) (eB rfl)) rfl ?_); refine ALK.a (opa_slitRow cU8 [byteOf o.kind] rfl rfl rfl rfl rfl rfl (Pc rfl (eB rfl) Cs.a rfl rfl Parts.nil) rfl rfl (fun _ => rfl) rfl) rfl ?_; (first | refine ALK.n (opn_field (o := 1) rfl (eB rfl)) rfl ?_ | refine ALK.n (opn_fieldOff (o := 1) rfl (eB rfl)) rfl ?_); (first | refine ALK.n (opn_load rfl (eB rfl) rfl) rfl ?_ | refine ALK.r OpR.ld rfl ?_); refine ALK.n (opn_call (ref_eight_fn o.n) (Evs.cons Ev.a Evs.nil)) rfl ?_; refine ALK.e (ope_append (b := 1) (eightB o.n) rfl rfl rfl rfl rfl (eB rfl) (eB rfl) rfl rfl (by simp [eightB_len]) rfl) rfl rfl ?_; refine nA rfl rfl ?_; refine ALK.nilD (by kernel_rfl) ?_; try show WP _ _ _ _ _ _)
  refine WP.shift (Shift.frzRow 2 rfl rfl) ?_
  ((repeat apply WP.seq); refine WP.ret ?_; first | exact RetOk.one Try.results54 ResV.a | exact RetOk.tup Try.results54 rfl ResVs.a)

theorem bGuard_cut3 (g : Guard) (L : List UInt8) : ((L ++ [byteOf g.kind]) ++ bOp g.a) ++ bOp g.b = L ++ bGuard g := by
  unfold bGuard; simp
theorem bSet_cut3 (s : SetT) (L : List UInt8) : ((L ++ [byteOf s.key, byteOf s.op]) ++ bOp s.a) ++ bOp s.b = L ++ bSet s := by
  unfold bSet; simp
theorem flat_int (l : List Int) : l.flatMap bInt = l.map byteOf := by
  induction l with
  | nil => rfl
  | cons x l ih => rw [List.flatMap_cons, List.map_cons, ih]; rfl
abbrev rowB (r : Nat) (bs : List UInt8) : Ent := (r, .row 5 1 cU8 bs)
set_option maxRecDepth 100000 in
set_option maxHeartbeats 2000000 in
theorem ref_PlanBytes_fn (p : Plan) (h0 : checkPlan p = 0) : Fn (Cfg.mk Try.prog (ttAt ttl) ttl_ok.ok mixd) 16 [planV p] (IV.str (bPlan p)) := by
  obtain ⟨hs1, hs2, hs3⟩ := checkPlan_zero h0
  obtain ⟨hs4, hs5⟩ := checkTxns_zero hs3
  refine Fn.of_wp _ Try.func16 rfl (by kernel_rfl) Try.ntmps16 rfl ?_
  intro F hD hG
  ((repeat apply WP.seq); apply WP.lreg; refine ALK.n (opn_box (eB rfl) Cs.a rfl) rfl ?_; refine nA rfl rfl ?_; refine ALK.nil ?_; try show WP _ _ _ _ _ _)
  ((repeat apply WP.seq); apply WP.lreg; (first | refine ALK.n (opn_field (o := 0) rfl (eB rfl)) rfl ?_ | refine ALK.n (opn_fieldOff (o := 0) rfl (eB rfl)) rfl ?_); (first | refine ALK.n (opn_load rfl (eB rfl) rfl) rfl ?_ | refine ALK.r OpR.ld rfl ?_); (first | refine ALK.n (opn_toB (by kernel_rfl) (by kernel_rfl) (by kernel_rfl) (eB rfl)) rfl ?_ | refine ALK.n (opn_ofB (by kernel_rfl) (by kernel_rfl) (by kernel_rfl) (eB rfl)) rfl ?_); (first | refine ALK.n (opn_field (o := 1) rfl (eB rfl)) rfl ?_ | refine ALK.n (opn_fieldOff (o := 1) rfl (eB rfl)) rfl ?_); (first | refine ALK.n (opn_load rfl (eB rfl) rfl) rfl ?_ | refine ALK.r OpR.ld rfl ?_); refine ALK.n OpN.ln rfl ?_; (first | refine ALK.n (opn_toB (by kernel_rfl) (by kernel_rfl) (by kernel_rfl) (eB rfl)) rfl ?_ | refine ALK.n (opn_ofB (by kernel_rfl) (by kernel_rfl) (by kernel_rfl) (eB rfl)) rfl ?_); refine ALK.a (opa_slitRow cU8 [byteOf p.shards, byteOf p.txns.length] rfl rfl rfl rfl rfl rfl (Pc rfl (eB rfl) Cs.a rfl rfl (Pc rfl (eB rfl) Cs.a rfl rfl Parts.nil)) rfl rfl (fun _ => rfl) rfl) rfl ?_; refine nA rfl rfl ?_; refine ALK.nil ?_; try show WP _ _ _ _ _ _)
  ((repeat apply WP.seq); apply WP.lreg; refine nA rfl rfl ?_; refine ALK.nil ?_; try show WP _ _ _ _ _ _)
  ((repeat apply WP.seq); apply WP.block)
  refine WP.loop (fun k : Nat => ⟨[(4, .im (IV.int k)), (3, .row 0 ([byteOf p.shards, byteOf p.txns.length] ++ (p.txns.take k).flatMap bTxn).length), (1, .im (IV.ptr (cP p)))], [rowB 0 ([byteOf p.shards, byteOf p.txns.length] ++ (p.txns.take k).flatMap bTxn)], 1⟩) (fun k => k ≤ p.txns.length) (fun k => p.txns.length - k) 0 (Nat.zero_le _) (Shift.sub [(0, 0)] rfl (SubE.cons rfl (SLe.im (ILe.int rfl)) (SubE.cons rfl (SLe.row rfl (by simp)) SubE.a)) (SubH.cons rfl rfl (ObLe.row (by simp)) SubH.nil)) ?_
  rintro k hk
  ((repeat apply WP.seq); apply WP.lreg; refine nM rfl rfl ?_; (first | refine ALK.n (opn_field (o := 1) rfl (eB rfl)) rfl ?_ | refine ALK.n (opn_fieldOff (o := 1) rfl (eB rfl)) rfl ?_); (first | refine ALK.n (opn_load rfl (eB rfl) rfl) rfl ?_ | refine ALK.r OpR.ld rfl ?_); refine ALK.n OpN.ln rfl ?_; refine ALK.n OpN.cm rfl ?_; refine ALK.nil ?_; try show WP _ _ _ _ _ _)
  ((repeat apply WP.seq); refine WP.cond rfl (fun h => ?_) (fun h => ?_))
  · (refine WP.skip ?_; show WP _ _ _ _ _ _)
    have hlt : k < p.txns.length := by simpa using h
    obtain ⟨t, ht⟩ := get_at hlt
    obtain ⟨⟨z1, z2, _, z3⟩, _, _⟩ := checkTxn_all (hs5 t (List.mem_of_getElem? ht))
    have hfl := len_flat bTxn 105 (p.txns.take k) fun t ht => by
      obtain ⟨a, b, _, c⟩ := (checkTxn_all (hs5 t (List.mem_of_mem_take ht))).1
      exact len_txn a b c
    rw [List.length_take] at hfl
    have hlL : ([byteOf p.shards, byteOf p.txns.length] ++ (p.txns.take k).flatMap bTxn).length ≤ 2000 := by simp only [List.length_append, List.length_cons, List.length_nil]; omega
    have hfin : [byteOf p.shards, byteOf p.txns.length] ++ (p.txns.take (k + 1)).flatMap bTxn = ([byteOf p.shards, byteOf p.txns.length] ++ (p.txns.take k).flatMap bTxn) ++ bTxn t := by rw [snoc_take ht, List.flatMap_append, List.append_assoc]; simp
    obtain ⟨L, hL⟩ : ∃ L, L = [byteOf p.shards, byteOf p.txns.length] ++ (p.txns.take k).flatMap bTxn := ⟨_, rfl⟩
    rw [← hL] at hlL hfin ⊢
    ((repeat apply WP.seq); apply WP.block)
    ((repeat apply WP.seq); apply WP.lreg; (first | refine ALK.n (opn_field (o := 1) rfl (eB rfl)) rfl ?_ | refine ALK.n (opn_fieldOff (o := 1) rfl (eB rfl)) rfl ?_); (first | refine ALK.n (opn_load rfl (eB rfl) rfl) rfl ?_ | refine ALK.r OpR.ld rfl ?_); refine nM rfl rfl ?_; refine ALK.n OpN.ix rfl ?_; (first | refine ALK.n (opn_load rfl (eB rfl) rfl) rfl ?_ | refine ALK.r OpR.ld rfl ?_); refine ALK.a (opa_alloc rfl rfl) rfl ?_; (first | refine ALK.e (ope_store rfl (eB rfl) (eB rfl) Cs.a rfl rfl rfl) rfl rfl ?_ | refine ALK.e (ope_storeRow rfl rfl (eB rfl) (eB rfl) (oc_val rfl) rfl rfl (by assumption)) rfl rfl ?_); refine ALK.nil ?_; try show WP _ _ _ _ _ _)
    refine WP.shift (Shift.frzBlk 5 rfl rfl rfl) ?_
    ((repeat apply WP.seq); apply WP.lreg; refine nM rfl rfl ?_; (first | refine ALK.n (opn_field (o := 0) rfl (eB rfl)) rfl ?_ | refine ALK.n (opn_fieldOff (o := 0) rfl (eB rfl)) rfl ?_); (first | refine ALK.n (opn_load rfl (eB rfl) rfl) rfl ?_ | refine ALK.r OpR.ld rfl ?_); refine ALK.n OpN.ln rfl ?_; (first | refine ALK.n (opn_toB (by kernel_rfl) (by kernel_rfl) (by kernel_rfl) (eB rfl)) rfl ?_ | refine ALK.n (opn_ofB (by kernel_rfl) (by kernel_rfl) (by kernel_rfl) (eB rfl)) rfl ?_); refine ALK.n (opn_slit rfl rfl rfl rfl rfl rfl (Pc rfl (eB rfl) Cs.a rfl rfl Parts.nil) rfl) rfl ?_; refine ALK.e (ope_append (b := 1) [byteOf t.reads.length] rfl rfl rfl rfl rfl (eB rfl) (eB rfl) rfl rfl (by simp; omega) rfl) rfl rfl ?_; refine nA rfl rfl ?_; refine ALK.nil ?_; try show WP _ _ _ _ _ _)
    ((repeat apply WP.seq); apply WP.lreg; refine nA rfl rfl ?_; refine ALK.nil ?_; try show WP _ _ _ _ _ _)
    ((repeat apply WP.seq); apply WP.block)
    refine WP.loop (fun j : Nat => ⟨[(6, .im (IV.int j)), (3, .row 0 ((L ++ [byteOf t.reads.length]) ++ (t.reads.take j).map byteOf).length), (5, .im (IV.ptr (cT t))), (4, .im (IV.int k)), (1, .im (IV.ptr (cP p)))], [rowB 0 ((L ++ [byteOf t.reads.length]) ++ (t.reads.take j).map byteOf)], 1⟩) (fun j => j ≤ t.reads.length) (fun j => t.reads.length - j) 0 (Nat.zero_le _) (Shift.sub [(0, 2)] rfl (SubE.cons rfl (SLe.im (ILe.int rfl)) (SubE.cons rfl (SLe.row rfl (by simp)) SubE.a)) (SubH.cons rfl rfl (ObLe.row (by simp)) SubH.nil)) ?_
    rintro j hj
    ((repeat apply WP.seq); apply WP.lreg; refine nM rfl rfl ?_; (first | refine ALK.n (opn_field (o := 0) rfl (eB rfl)) rfl ?_ | refine ALK.n (opn_fieldOff (o := 0) rfl (eB rfl)) rfl ?_); (first | refine ALK.n (opn_load rfl (eB rfl) rfl) rfl ?_ | refine ALK.r OpR.ld rfl ?_); refine ALK.n OpN.ln rfl ?_; refine ALK.n OpN.cm rfl ?_; refine ALK.nil ?_; try show WP _ _ _ _ _ _)
    ((repeat apply WP.seq); refine WP.cond rfl (fun h => ?_) (fun h => ?_))
    · (refine WP.skip ?_; show WP _ _ _ _ _ _)
      have hlt2 : j < t.reads.length := by simpa using h
      obtain ⟨q, hq⟩ := get_at hlt2
      have hn : (L ++ [byteOf t.reads.length]) ++ (t.reads.take (j + 1)).map byteOf = ((L ++ [byteOf t.reads.length]) ++ (t.reads.take j).map byteOf) ++ [byteOf q] := by rw [snoc_take hq, List.map_append, ← List.append_assoc]; rfl
      ((repeat apply WP.seq); apply WP.block)
      ((repeat apply WP.seq); apply WP.lreg; refine nM rfl rfl ?_; (first | refine ALK.n (opn_field (o := 0) rfl (eB rfl)) rfl ?_ | refine ALK.n (opn_fieldOff (o := 0) rfl (eB rfl)) rfl ?_); (first | refine ALK.n (opn_load rfl (eB rfl) rfl) rfl ?_ | refine ALK.r OpR.ld rfl ?_); refine nM rfl rfl ?_; refine ALK.n OpN.ix rfl ?_; (first | refine ALK.n (opn_load rfl (eB rfl) rfl) rfl ?_ | refine ALK.r OpR.ld rfl ?_); (first | refine ALK.n (opn_toB (by kernel_rfl) (by kernel_rfl) (by kernel_rfl) (eB rfl)) rfl ?_ | refine ALK.n (opn_ofB (by kernel_rfl) (by kernel_rfl) (by kernel_rfl) (eB rfl)) rfl ?_); refine ALK.n (opn_slit rfl rfl rfl rfl rfl rfl (Pc rfl (eB rfl) Cs.a rfl rfl Parts.nil) rfl) rfl ?_; refine ALK.e (ope_append (b := 1) [byteOf q] rfl rfl rfl rfl rfl (eB rfl) (eB rfl) rfl rfl (by simp; omega) rfl) rfl rfl ?_; refine nA rfl rfl ?_; refine ALK.nil ?_; try show WP _ _ _ _ _ _)
      ((repeat apply WP.seq); apply WP.lreg; refine nM rfl rfl ?_; refine ALK.n OpN.ar rfl ?_; refine nA rfl rfl ?_; refine ALK.nil ?_; try show WP _ _ _ _ _ _)
      show ∃ _, _ ∧ _ ∧ _
      exact ⟨j + 1, by omega, by omega, Shift.sub [(0, 1)] rfl (SubE.cons rfl (SLe.im (ILe.int rfl)) (SubE.cons rfl (SLe.row rfl (by rw [hn]; simp only [List.length_append])) SubE.a)) (SubH.cons rfl rfl (ObLe.row hn.symm) SubH.nil)⟩
    · ((repeat apply WP.seq); refine WP.exit ?_; show WP _ _ _ _ _ _)
      have hje : j = t.reads.length := by simp at h; omega
      subst hje
      rw [List.take_length]
      obtain ⟨M, hM⟩ : ∃ M, M = (L ++ [byteOf t.reads.length]) ++ t.reads.map byteOf := ⟨_, rfl⟩
      have hlM : M.length ≤ 3000 := by rw [hM]; simp; omega
      rw [← hM]
      ((repeat apply WP.seq); apply WP.lreg; refine nM rfl rfl ?_; (first | refine ALK.n (opn_field (o := 1) rfl (eB rfl)) rfl ?_ | refine ALK.n (opn_fieldOff (o := 1) rfl (eB rfl)) rfl ?_); (first | refine ALK.n (opn_load rfl (eB rfl) rfl) rfl ?_ | refine ALK.r OpR.ld rfl ?_); refine ALK.n OpN.ln rfl ?_; (first | refine ALK.n (opn_toB (by kernel_rfl) (by kernel_rfl) (by kernel_rfl) (eB rfl)) rfl ?_ | refine ALK.n (opn_ofB (by kernel_rfl) (by kernel_rfl) (by kernel_rfl) (eB rfl)) rfl ?_); refine ALK.n (opn_slit rfl rfl rfl rfl rfl rfl (Pc rfl (eB rfl) Cs.a rfl rfl Parts.nil) rfl) rfl ?_; refine ALK.e (ope_append (b := 1) [byteOf t.guards.length] rfl rfl rfl rfl rfl (eB rfl) (eB rfl) rfl rfl (by simp; omega) rfl) rfl rfl ?_; refine nA rfl rfl ?_; refine ALK.nil ?_; try show WP _ _ _ _ _ _)
      ((repeat apply WP.seq); apply WP.lreg; refine nA rfl rfl ?_; refine ALK.nil ?_; try show WP _ _ _ _ _ _)
      ((repeat apply WP.seq); apply WP.block)
      refine WP.loop (fun j : Nat => ⟨[(7, .im (IV.int j)), (3, .row 0 ((M ++ [byteOf t.guards.length]) ++ (t.guards.take j).flatMap bGuard).length), (5, .im (IV.ptr (cT t))), (4, .im (IV.int k)), (1, .im (IV.ptr (cP p)))], [rowB 0 ((M ++ [byteOf t.guards.length]) ++ (t.guards.take j).flatMap bGuard)], 1⟩) (fun j => j ≤ t.guards.length) (fun j => t.guards.length - j) 0 (Nat.zero_le _) (Shift.sub [(0, 1)] rfl (SubE.cons rfl (SLe.im (ILe.int rfl)) (SubE.cons rfl (SLe.row rfl (by simp)) SubE.a)) (SubH.cons rfl rfl (ObLe.row (by simp)) SubH.nil)) ?_
      rintro j hj
      ((repeat apply WP.seq); apply WP.lreg; refine nM rfl rfl ?_; (first | refine ALK.n (opn_field (o := 1) rfl (eB rfl)) rfl ?_ | refine ALK.n (opn_fieldOff (o := 1) rfl (eB rfl)) rfl ?_); (first | refine ALK.n (opn_load rfl (eB rfl) rfl) rfl ?_ | refine ALK.r OpR.ld rfl ?_); refine ALK.n OpN.ln rfl ?_; refine ALK.n OpN.cm rfl ?_; refine ALK.nil ?_; try show WP _ _ _ _ _ _)
      ((repeat apply WP.seq); refine WP.cond rfl (fun h => ?_) (fun h => ?_))
      · (refine WP.skip ?_; show WP _ _ _ _ _ _)
        have hlt2 : j < t.guards.length := by simpa using h
        obtain ⟨g, hg⟩ := get_at hlt2
        have hfl2 := len_flat bGuard 19 (t.guards.take j) fun x _ => Nat.le_of_eq (len_guard x)
        rw [List.length_take] at hfl2
        have hn : (M ++ [byteOf t.guards.length]) ++ (t.guards.take (j + 1)).flatMap bGuard = ((M ++ [byteOf t.guards.length]) ++ (t.guards.take j).flatMap bGuard) ++ bGuard g := by rw [snoc_take hg, List.flatMap_append]; simp
        obtain ⟨N, hN⟩ : ∃ N, N = (M ++ [byteOf t.guards.length]) ++ (t.guards.take j).flatMap bGuard := ⟨_, rfl⟩
        have hlN : N.length ≤ 4000 := by rw [hN]; simp only [List.length_append, List.length_cons, List.length_nil]; omega
        rw [← hN] at hn ⊢
        ((repeat apply WP.seq); apply WP.block)
        ((repeat apply WP.seq); apply WP.lreg; refine nM rfl rfl ?_; (first | refine ALK.n (opn_field (o := 1) rfl (eB rfl)) rfl ?_ | refine ALK.n (opn_fieldOff (o := 1) rfl (eB rfl)) rfl ?_); (first | refine ALK.n (opn_load rfl (eB rfl) rfl) rfl ?_ | refine ALK.r OpR.ld rfl ?_); refine nM rfl rfl ?_; refine ALK.n OpN.ix rfl ?_; (first | refine ALK.n (opn_field (o := 0) rfl (eB rfl)) rfl ?_ | refine ALK.n (opn_fieldOff (o := 0) rfl (eB rfl)) rfl ?_); (first | refine ALK.n (opn_load rfl (eB rfl) rfl) rfl ?_ | refine ALK.r OpR.ld rfl ?_); (first | refine ALK.n (opn_toB (by kernel_rfl) (by kernel_rfl) (by kernel_rfl) (eB rfl)) rfl ?_ | refine ALK.n (opn_ofB (by kernel_rfl) (by kernel_rfl) (by kernel_rfl) (eB rfl)) rfl ?_); refine ALK.n (opn_slit rfl rfl rfl rfl rfl rfl (Pc rfl (eB rfl) Cs.a rfl rfl Parts.nil) rfl) rfl ?_; refine ALK.e (ope_append (b := 1) [byteOf g.kind] rfl rfl rfl rfl rfl (eB rfl) (eB rfl) rfl rfl (by simp; omega) rfl) rfl rfl ?_; refine nA rfl rfl ?_; refine ALK.nil ?_; try show WP _ _ _ _ _ _)
        ((repeat apply WP.seq); apply WP.lreg; refine nM rfl rfl ?_; (first | refine ALK.n (opn_field (o := 1) rfl (eB rfl)) rfl ?_ | refine ALK.n (opn_fieldOff (o := 1) rfl (eB rfl)) rfl ?_); (first | refine ALK.n (opn_load rfl (eB rfl) rfl) rfl ?_ | refine ALK.r OpR.ld rfl ?_); refine nM rfl rfl ?_; refine ALK.n OpN.ix rfl ?_; (first | refine ALK.n (opn_field (o := 1) rfl (eB rfl)) rfl ?_ | refine ALK.n (opn_fieldOff (o := 1) rfl (eB rfl)) rfl ?_); (first | refine ALK.n (opn_load rfl (eB rfl) rfl) rfl ?_ | refine ALK.r OpR.ld rfl ?_); refine ALK.n (opn_call (ref_operandBytes_fn g.a) (Evs.cons Ev.a Evs.nil)) rfl ?_; refine ALK.e (ope_append (b := 1) (bOp g.a) rfl rfl rfl rfl rfl (eB rfl) (eB rfl) rfl rfl (by simp [len_op]; omega) rfl) rfl rfl ?_; refine nA rfl rfl ?_; refine ALK.nil ?_; try show WP _ _ _ _ _ _)
        ((repeat apply WP.seq); apply WP.lreg; refine nM rfl rfl ?_; (first | refine ALK.n (opn_field (o := 1) rfl (eB rfl)) rfl ?_ | refine ALK.n (opn_fieldOff (o := 1) rfl (eB rfl)) rfl ?_); (first | refine ALK.n (opn_load rfl (eB rfl) rfl) rfl ?_ | refine ALK.r OpR.ld rfl ?_); refine nM rfl rfl ?_; refine ALK.n OpN.ix rfl ?_; (first | refine ALK.n (opn_field (o := 3) rfl (eB rfl)) rfl ?_ | refine ALK.n (opn_fieldOff (o := 3) rfl (eB rfl)) rfl ?_); (first | refine ALK.n (opn_load rfl (eB rfl) rfl) rfl ?_ | refine ALK.r OpR.ld rfl ?_); refine ALK.n (opn_call (ref_operandBytes_fn g.b) (Evs.cons Ev.a Evs.nil)) rfl ?_; refine ALK.e (ope_append (b := 1) (bOp g.b) rfl rfl rfl rfl rfl (eB rfl) (eB rfl) rfl rfl (by simp [len_op]; omega) rfl) rfl rfl ?_; refine nA rfl rfl ?_; refine ALK.nil ?_; try show WP _ _ _ _ _ _)
        ((repeat apply WP.seq); apply WP.lreg; refine nM rfl rfl ?_; refine ALK.n OpN.ar rfl ?_; refine nA rfl rfl ?_; refine ALK.nil ?_; try show WP _ _ _ _ _ _)
        show ∃ _, _ ∧ _ ∧ _
        rw [← bGuard_cut3] at hn
        exact ⟨j + 1, by omega, by omega, Shift.sub [(0, 3)] rfl (SubE.cons rfl (SLe.im (ILe.int rfl)) (SubE.cons rfl (SLe.row rfl (by rw [hn]; simp only [List.length_append])) SubE.a)) (SubH.cons rfl rfl (ObLe.row hn.symm) SubH.nil)⟩
      · ((repeat apply WP.seq); refine WP.exit ?_; show WP _ _ _ _ _ _)
        have hje : j = t.guards.length := by simp at h; omega
        subst hje
        rw [List.take_length]
        have hfl2 := len_flat bGuard 19 t.guards fun x _ => Nat.le_of_eq (len_guard x)
        obtain ⟨N, hN⟩ : ∃ N, N = (M ++ [byteOf t.guards.length]) ++ t.guards.flatMap bGuard := ⟨_, rfl⟩
        have hlN : N.length ≤ 4000 := by rw [hN]; simp only [List.length_append, List.length_cons, List.length_nil]; omega
        rw [← hN]
        ((repeat apply WP.seq); apply WP.lreg; refine nM rfl rfl ?_; (first | refine ALK.n (opn_field (o := 2) rfl (eB rfl)) rfl ?_ | refine ALK.n (opn_fieldOff (o := 2) rfl (eB rfl)) rfl ?_); (first | refine ALK.n (opn_load rfl (eB rfl) rfl) rfl ?_ | refine ALK.r OpR.ld rfl ?_); refine ALK.n OpN.ln rfl ?_; (first | refine ALK.n (opn_toB (by kernel_rfl) (by kernel_rfl) (by kernel_rfl) (eB rfl)) rfl ?_ | refine ALK.n (opn_ofB (by kernel_rfl) (by kernel_rfl) (by kernel_rfl) (eB rfl)) rfl ?_); refine ALK.n (opn_slit rfl rfl rfl rfl rfl rfl (Pc rfl (eB rfl) Cs.a rfl rfl Parts.nil) rfl) rfl ?_; refine ALK.e (ope_append (b := 1) [byteOf t.sets.length] rfl rfl rfl rfl rfl (eB rfl) (eB rfl) rfl rfl (by simp; omega) rfl) rfl rfl ?_; refine nA rfl rfl ?_; refine ALK.nil ?_; try show WP _ _ _ _ _ _)
        ((repeat apply WP.seq); apply WP.lreg; refine nA rfl rfl ?_; refine ALK.nil ?_; try show WP _ _ _ _ _ _)
        ((repeat apply WP.seq); apply WP.block)
        refine WP.loop (fun j : Nat => ⟨[(8, .im (IV.int j)), (3, .row 0 ((N ++ [byteOf t.sets.length]) ++ (t.sets.take j).flatMap bSet).length), (5, .im (IV.ptr (cT t))), (4, .im (IV.int k)), (1, .im (IV.ptr (cP p)))], [rowB 0 ((N ++ [byteOf t.sets.length]) ++ (t.sets.take j).flatMap bSet)], 1⟩) (fun j => j ≤ t.sets.length) (fun j => t.sets.length - j) 0 (Nat.zero_le _) (Shift.sub [(0, 1)] rfl (SubE.cons rfl (SLe.im (ILe.int rfl)) (SubE.cons rfl (SLe.row rfl (by simp)) SubE.a)) (SubH.cons rfl rfl (ObLe.row (by simp)) SubH.nil)) ?_
        rintro j hj
        ((repeat apply WP.seq); apply WP.lreg; refine nM rfl rfl ?_; (first | refine ALK.n (opn_field (o := 2) rfl (eB rfl)) rfl ?_ | refine ALK.n (opn_fieldOff (o := 2) rfl (eB rfl)) rfl ?_); (first | refine ALK.n (opn_load rfl (eB rfl) rfl) rfl ?_ | refine ALK.r OpR.ld rfl ?_); refine ALK.n OpN.ln rfl ?_; refine ALK.n OpN.cm rfl ?_; refine ALK.nil ?_; try show WP _ _ _ _ _ _)
        ((repeat apply WP.seq); refine WP.cond rfl (fun h => ?_) (fun h => ?_))
        · (refine WP.skip ?_; show WP _ _ _ _ _ _)
          have hlt2 : j < t.sets.length := by simpa using h
          obtain ⟨s, hs⟩ := get_at hlt2
          have hfl3 := len_flat bSet 20 (t.sets.take j) fun x _ => Nat.le_of_eq (len_set x)
          rw [List.length_take] at hfl3
          have hn : (N ++ [byteOf t.sets.length]) ++ (t.sets.take (j + 1)).flatMap bSet = ((N ++ [byteOf t.sets.length]) ++ (t.sets.take j).flatMap bSet) ++ bSet s := by rw [snoc_take hs, List.flatMap_append]; simp
          obtain ⟨O, hO⟩ : ∃ O, O = (N ++ [byteOf t.sets.length]) ++ (t.sets.take j).flatMap bSet := ⟨_, rfl⟩
          have hlO : O.length ≤ 5000 := by rw [hO]; simp only [List.length_append, List.length_cons, List.length_nil]; omega
          rw [← hO] at hn ⊢
          ((repeat apply WP.seq); apply WP.block)
          ((repeat apply WP.seq); apply WP.ldraw; refine nM rfl rfl ?_; (first | refine ALK.n (opn_field (o := 2) rfl (eB rfl)) rfl ?_ | refine ALK.n (opn_fieldOff (o := 2) rfl (eB rfl)) rfl ?_); (first | refine ALK.n (opn_load rfl (eB rfl) rfl) rfl ?_ | refine ALK.r OpR.ld rfl ?_); refine nM rfl rfl ?_; refine ALK.n OpN.ix rfl ?_; (first | refine ALK.n (opn_field (o := 0) rfl (eB rfl)) rfl ?_ | refine ALK.n (opn_fieldOff (o := 0) rfl (eB rfl)) rfl ?_); (first | refine ALK.n (opn_load rfl (eB rfl) rfl) rfl ?_ | refine ALK.r OpR.ld rfl ?_); (first | refine ALK.n (opn_toB (by kernel_rfl) (by kernel_rfl) (by kernel_rfl) (eB rfl)) rfl ?_ | refine ALK.n (opn_ofB (by kernel_rfl) (by kernel_rfl) (by kernel_rfl) (eB rfl)) rfl ?_); (first | refine ALK.n (opn_field (o := 2) rfl (eB rfl)) rfl ?_ | refine ALK.n (opn_fieldOff (o := 2) rfl (eB rfl)) rfl ?_); (first | refine ALK.n (opn_load rfl (eB rfl) rfl) rfl ?_ | refine ALK.r OpR.ld rfl ?_); refine nM rfl rfl ?_; refine ALK.n OpN.ix rfl ?_; (first | refine ALK.n (opn_field (o := 1) rfl (eB rfl)) rfl ?_ | refine ALK.n (opn_fieldOff (o := 1) rfl (eB rfl)) rfl ?_); (first | refine ALK.n (opn_load rfl (eB rfl) rfl) rfl ?_ | refine ALK.r OpR.ld rfl ?_); (first | refine ALK.n (opn_toB (by kernel_rfl) (by kernel_rfl) (by kernel_rfl) (eB rfl)) rfl ?_ | refine ALK.n (opn_ofB (by kernel_rfl) (by kernel_rfl) (by kernel_rfl) (eB rfl)) rfl ?_); refine ALK.n (opn_slit rfl rfl rfl rfl rfl rfl (Pc rfl (eB rfl) Cs.a rfl rfl (Pc rfl (eB rfl) Cs.a rfl rfl Parts.nil)) rfl) rfl ?_; refine ALK.e (ope_append (b := 1) [byteOf s.key, byteOf s.op] rfl rfl rfl rfl rfl (eB rfl) (eB rfl) rfl rfl (by simp; omega) rfl) rfl rfl ?_; refine nA rfl rfl ?_; refine ALK.nilD (by kernel_rfl) ?_; try show WP _ _ _ _ _ _)
          ((repeat apply WP.seq); apply WP.lreg; refine nM rfl rfl ?_; (first | refine ALK.n (opn_field (o := 2) rfl (eB rfl)) rfl ?_ | refine ALK.n (opn_fieldOff (o := 2) rfl (eB rfl)) rfl ?_); (first | refine ALK.n (opn_load rfl (eB rfl) rfl) rfl ?_ | refine ALK.r OpR.ld rfl ?_); refine nM rfl rfl ?_; refine ALK.n OpN.ix rfl ?_; (first | refine ALK.n (opn_field (o := 2) rfl (eB rfl)) rfl ?_ | refine ALK.n (opn_fieldOff (o := 2) rfl (eB rfl)) rfl ?_); (first | refine ALK.n (opn_load rfl (eB rfl) rfl) rfl ?_ | refine ALK.r OpR.ld rfl ?_); refine ALK.n (opn_call (ref_operandBytes_fn s.a) (Evs.cons Ev.a Evs.nil)) rfl ?_; refine ALK.e (ope_append (b := 1) (bOp s.a) rfl rfl rfl rfl rfl (eB rfl) (eB rfl) rfl rfl (by simp [len_op]; omega) rfl) rfl rfl ?_; refine nA rfl rfl ?_; refine ALK.nil ?_; try show WP _ _ _ _ _ _)
          ((repeat apply WP.seq); apply WP.lreg; refine nM rfl rfl ?_; (first | refine ALK.n (opn_field (o := 2) rfl (eB rfl)) rfl ?_ | refine ALK.n (opn_fieldOff (o := 2) rfl (eB rfl)) rfl ?_); (first | refine ALK.n (opn_load rfl (eB rfl) rfl) rfl ?_ | refine ALK.r OpR.ld rfl ?_); refine nM rfl rfl ?_; refine ALK.n OpN.ix rfl ?_; (first | refine ALK.n (opn_field (o := 4) rfl (eB rfl)) rfl ?_ | refine ALK.n (opn_fieldOff (o := 4) rfl (eB rfl)) rfl ?_); (first | refine ALK.n (opn_load rfl (eB rfl) rfl) rfl ?_ | refine ALK.r OpR.ld rfl ?_); refine ALK.n (opn_call (ref_operandBytes_fn s.b) (Evs.cons Ev.a Evs.nil)) rfl ?_; refine ALK.e (ope_append (b := 1) (bOp s.b) rfl rfl rfl rfl rfl (eB rfl) (eB rfl) rfl rfl (by simp [len_op]; omega) rfl) rfl rfl ?_; refine nA rfl rfl ?_; refine ALK.nil ?_; try show WP _ _ _ _ _ _)
          ((repeat apply WP.seq); apply WP.lreg; refine nM rfl rfl ?_; refine ALK.n OpN.ar rfl ?_; refine nA rfl rfl ?_; refine ALK.nil ?_; try show WP _ _ _ _ _ _)
          show ∃ _, _ ∧ _ ∧ _
          rw [← bSet_cut3] at hn
          exact ⟨j + 1, by omega, by omega, Shift.sub [(0, 3)] rfl (SubE.cons rfl (SLe.im (ILe.int rfl)) (SubE.cons rfl (SLe.row rfl (by rw [hn]; simp only [List.length_append])) SubE.a)) (SubH.cons rfl rfl (ObLe.row hn.symm) SubH.nil)⟩
        · ((repeat apply WP.seq); refine WP.exit ?_; show WP _ _ _ _ _ _)
          have hje : j = t.sets.length := by simp at h; omega
          subst hje
          rw [List.take_length]
          ((repeat apply WP.seq); apply WP.lreg; refine nM rfl rfl ?_; refine ALK.n OpN.ar rfl ?_; refine nA rfl rfl ?_; refine ALK.nil ?_; try show WP _ _ _ _ _ _)
          show ∃ _, _ ∧ _ ∧ _
          have hn : (N ++ [byteOf t.sets.length]) ++ t.sets.flatMap bSet = [byteOf p.shards, byteOf p.txns.length] ++ (p.txns.take (k + 1)).flatMap bTxn := by
            rw [hfin, ← bTxn_cut, hN, hM]
          exact ⟨k + 1, by omega, by omega, Shift.sub [(0, 0)] rfl (SubE.cons rfl (SLe.im (ILe.int rfl)) (SubE.cons rfl (SLe.row rfl (by rw [hn])) SubE.a)) (SubH.cons rfl rfl (ObLe.row hn) SubH.nil)⟩
  · ((repeat apply WP.seq); refine WP.exit ?_; show WP _ _ _ _ _ _)
    have hke : k = p.txns.length := by simp at h; omega
    subst hke
    rw [List.take_length]
    have hn : [byteOf p.shards, byteOf p.txns.length] ++ p.txns.flatMap bTxn = bPlan p := rfl
    rw [hn]
    refine WP.shift (Shift.frzRow 3 rfl rfl) ?_
    ((repeat apply WP.seq); apply WP.lreg; refine nM rfl rfl ?_; refine ALK.n (opn_toStr rfl rfl (eB rfl)) rfl ?_; refine nA rfl rfl ?_; refine ALK.nil ?_; try show WP _ _ _ _ _ _)
    ((repeat apply WP.seq); refine WP.ret ?_; first | exact RetOk.one Try.results16 ResV.a | exact RetOk.tup Try.results16 rfl ResVs.a)
end Go.Proofs.Ytjgmbgfcffnanab
