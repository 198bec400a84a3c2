/- Package locks: the queues. (Printed by wip/tools/locks_gen.py.) -/
import Derived.Test.YtjgmbgfcffnanadLk
import Derived.Test.YtjgmbgfcffnanadLB
namespace Go.Proofs.Ytjgmbgfcffnanad
open Go.RowKit

structure WaitT where
  txn : Int
  write : Bool
deriving DecidableEq
def cW (x : WaitT) : List IV := [IV.int x.txn, IV.bool x.write]
def qIn (t : Txn) (n i : Nat) (key : Int) : List WaitT := ((locksOf t).take i).flatMap fun x => if x.key = key then [⟨n, x.write⟩] else []
def qAdd (l : List Txn) (done : List Bool) (key : Int) (q : Nat) : List WaitT := match l[q]?, done[q]? with
  | some t, some false => qIn t q (locksOf t).length key
  | _, _ => []
def qOf (l : List Txn) (done : List Bool) (n : Nat) (key : Int) : List WaitT := (List.range n).flatMap (qAdd l done key)
theorem qOf_next (l : List Txn) (done : List Bool) (n : Nat) (key : Int) : qOf l done (n + 1) key = qOf l done n key ++ qAdd l done key n := by
  unfold qOf; rw [List.range_succ, List.flatMap_append]; simp
theorem qIn_next {t : Txn} {n i : Nat} {x : LockT} (h : (locksOf t)[i]? = some x) (key : Int) : qIn t n (i + 1) key = qIn t n i key ++ if x.key = key then [⟨n, x.write⟩] else [] := by
  unfold qIn; rw [List.take_add_one, h, List.flatMap_append]; simp
theorem qIn_len (t : Txn) (n : Nat) (key : Int) : ∀ i, (qIn t n i key).length ≤ i
  | 0 => by simp [qIn]
  | i + 1 => by
    have := qIn_len t n key i
    rcases Nat.lt_or_ge i (locksOf t).length with h | h
    · obtain ⟨x, hx⟩ := get_at h
      rw [qIn_next hx, List.length_append]
      split <;> simp <;> omega
    · unfold qIn at this ⊢
      rw [List.take_of_length_le (by omega)] at this ⊢
      omega
theorem qAdd_len (l : List Txn) (done : List Bool) (key : Int) (q : Nat) : (qAdd l done key q).length ≤ 8 := by
  unfold qAdd
  split
  · exact Nat.le_trans (qIn_len _ _ _ _) (locksTo_len _ 8)
  · simp
theorem qOf_len (l : List Txn) (done : List Bool) (key : Int) : ∀ n, (qOf l done n key).length ≤ n * 8
  | 0 => by simp [qOf]
  | n + 1 => by
    have := qOf_len l done key n
    have := qAdd_len l done key n
    rw [qOf_next, List.length_append]
    omega
abbrev qPtr (l : List Txn) (done : List Bool) : List IV := [IV.view 2 cW (qOf l done l.length 0), IV.view 2 cW (qOf l done l.length 1), IV.view 2 cW (qOf l done l.length 2), IV.view 2 cW (qOf l done l.length 3), IV.view 2 cW (qOf l done l.length 4), IV.view 2 cW (qOf l done l.length 5), IV.view 2 cW (qOf l done l.length 6), IV.view 2 cW (qOf l done l.length 7)]

set_option maxRecDepth 100000 in
set_option maxHeartbeats 1000000 in
theorem locks_of_fn (l : List Txn) (done : List Bool) (hb : TxsB l) (h0 : checkTxns l = 0) (hd : done.length = l.length) : Fn (Cfg.mk Try.prog (ttAt ttl) ttl_ok.ok mixd) 40 [txsV l, boolsV done] (IV.ptr (qPtr l done)) := by
  obtain ⟨hl8, hall⟩ := checkTxns_zero h0
  refine Fn.of_wp _ Try.func40 rfl (by kernel_rfl) Try.ntmps40 rfl ?_
  intro F hD hG
  ((repeat apply WP.seq); apply WP.lreg; refine nA rfl rfl ?_; refine ALK.nil ?_; try show WP _ _ _ _ _ _)
  ((repeat apply WP.seq); apply WP.lreg; (first | refine ALK.n (opn_build rfl rfl rfl rfl Parts.nil) rfl ?_ | refine ALK.n (opn_buildA rfl rfl rfl rfl rfl Parts.nil) rfl ?_); refine ALK.a (opa_box (eB rfl) cs_agg) rfl ?_; refine nA rfl rfl ?_; refine ALK.nil ?_; try show WP _ _ _ _ _ _)
  refine WP.shift (Shift.row0In 0 0 77 2 cW (fun _ => rfl) rfl rfl rfl) ?_
  refine WP.shift (Shift.row0In 0 1 77 2 cW (fun _ => rfl) rfl rfl rfl) ?_
  refine WP.shift (Shift.row0In 0 2 77 2 cW (fun _ => rfl) rfl rfl rfl) ?_
  refine WP.shift (Shift.row0In 0 3 77 2 cW (fun _ => rfl) rfl rfl rfl) ?_
  refine WP.shift (Shift.row0In 0 4 77 2 cW (fun _ => rfl) rfl rfl rfl) ?_
  refine WP.shift (Shift.row0In 0 5 77 2 cW (fun _ => rfl) rfl rfl rfl) ?_
  refine WP.shift (Shift.row0In 0 6 77 2 cW (fun _ => rfl) rfl rfl rfl) ?_
  refine WP.shift (Shift.row0In 0 7 77 2 cW (fun _ => rfl) rfl rfl rfl) ?_
  ((repeat apply WP.seq); apply WP.lreg; refine nM rfl rfl ?_; refine ALK.n OpN.ln rfl ?_; refine nM rfl rfl ?_; refine ALK.nil ?_; try show WP _ _ _ _ _ _)
  ((repeat apply WP.seq); apply WP.block)
  refine WP.loop (fun n : Nat => ⟨[(16, .im (IV.int n)), (14, .im (txsV l)), (15, .im (IV.int l.length)), (1, .im (boolsV done)), (5, .off 0 0)], [(0, .blk 97 [.row 1 (qOf l done n 0).length, .row 2 (qOf l done n 1).length, .row 3 (qOf l done n 2).length, .row 4 (qOf l done n 3).length, .row 5 (qOf l done n 4).length, .row 6 (qOf l done n 5).length, .row 7 (qOf l done n 6).length, .row 8 (qOf l done n 7).length]), (1, .row 77 2 cW (qOf l done n 0)), (2, .row 77 2 cW (qOf l done n 1)), (3, .row 77 2 cW (qOf l done n 2)), (4, .row 77 2 cW (qOf l done n 3)), (5, .row 77 2 cW (qOf l done n 4)), (6, .row 77 2 cW (qOf l done n 5)), (7, .row 77 2 cW (qOf l done n 6)), (8, .row 77 2 cW (qOf l done n 7))], 9⟩) (fun n => n ≤ l.length) (fun n => l.length - n) 0 (Nat.zero_le _) (Shift.sub [(0, 0), (1, 1), (2, 2), (3, 3), (4, 4), (5, 5), (6, 6), (7, 7), (8, 8)] rfl SubE.a (SubH.cons rfl rfl (ObLe.blk (SLes.cons (SLe.row rfl rfl) (SLes.cons (SLe.row rfl rfl) (SLes.cons (SLe.row rfl rfl) (SLes.cons (SLe.row rfl rfl) (SLes.cons (SLe.row rfl rfl) (SLes.cons (SLe.row rfl rfl) (SLes.cons (SLe.row rfl rfl) (SLes.cons (SLe.row rfl rfl) SLes.nil))))))))) (SubH.cons rfl rfl (ObLe.row rfl) (SubH.cons rfl rfl (ObLe.row rfl) (SubH.cons rfl rfl (ObLe.row rfl) (SubH.cons rfl rfl (ObLe.row rfl) (SubH.cons rfl rfl (ObLe.row rfl) (SubH.cons rfl rfl (ObLe.row rfl) (SubH.cons rfl rfl (ObLe.row rfl) (SubH.cons rfl rfl (ObLe.row rfl) SubH.nil)))))))))) ?_
  rintro n hn
  ((repeat apply WP.seq); apply WP.lreg; refine ALK.n OpN.cm rfl ?_; refine ALK.nil ?_; try show WP _ _ _ _ _ _)
  ((repeat apply WP.seq); refine WP.cond rfl (fun h => ?_) (fun h => ?_))
  · (refine WP.skip ?_; show WP _ _ _ _ _ _)
    have hlt : n < l.length := by simpa using h
    obtain ⟨t, ht⟩ := get_at hlt
    obtain ⟨b, hbn⟩ := get_at (xs := done) (k := n) (by omega)
    have hbt := hb t (List.mem_of_getElem? ht)
    have hok := hall t (List.mem_of_getElem? ht)
    ((repeat apply WP.seq); apply WP.block)
    ((repeat apply WP.seq); apply WP.lreg; refine nM rfl rfl ?_; refine ALK.n OpN.ix rfl ?_; (first | refine ALK.n (opn_load rfl (eB rfl) rfl) rfl ?_ | refine ALK.r OpR.ld rfl ?_); refine ALK.a (opa_alloc rfl rfl) rfl ?_; refine nA rfl rfl ?_; (first | refine ALK.e (ope_store rfl (eB rfl) (eB rfl) Cs.a rfl rfl rfl) rfl rfl ?_ | refine ALK.e (ope_storeRow rfl rfl (eB rfl) (eB rfl) (oc_val rfl) rfl rfl (by assumption)) rfl rfl ?_); refine ALK.nil ?_; try show WP _ _ _ _ _ _)
    refine WP.shift (Shift.frzBlk 7 rfl rfl rfl) ?_
    ((repeat apply WP.seq); apply WP.lreg; refine nM rfl rfl ?_; refine nM rfl rfl ?_; refine ALK.n OpN.ix rfl ?_; (first | refine ALK.n (opn_load rfl (eB rfl) rfl) rfl ?_ | refine ALK.r OpR.ld rfl ?_); refine ALK.nil ?_; try show WP _ _ _ _ _ _)
    ((repeat apply WP.seq); refine WP.cond rfl (fun h => ?_) (fun h => ?_))
    · ((repeat apply WP.seq); refine WP.exit ?_; show WP _ _ _ _ _ _)
      have hq : ∀ key, qOf l done (n + 1) key = qOf l done n key := fun key => by
        rw [qOf_next]
        unfold qAdd
        have hb2 : b = true := h
        rw [ht, hbn, hb2]
        simp
      ((repeat apply WP.seq); apply WP.lreg; refine ALK.n OpN.ar rfl ?_; refine nM rfl rfl ?_; refine ALK.nil ?_; try show WP _ _ _ _ _ _)
      show ∃ _, _ ∧ _ ∧ _
      exact ⟨n + 1, by omega, by omega, Shift.sub [(0, 0), (1, 1), (2, 2), (3, 3), (4, 4), (5, 5), (6, 6), (7, 7), (8, 8)] rfl SubE.a (SubH.cons rfl rfl (ObLe.blk (SLes.cons (SLe.row rfl (by rw [hq])) (SLes.cons (SLe.row rfl (by rw [hq])) (SLes.cons (SLe.row rfl (by rw [hq])) (SLes.cons (SLe.row rfl (by rw [hq])) (SLes.cons (SLe.row rfl (by rw [hq])) (SLes.cons (SLe.row rfl (by rw [hq])) (SLes.cons (SLe.row rfl (by rw [hq])) (SLes.cons (SLe.row rfl (by rw [hq])) SLes.nil))))))))) (SubH.cons rfl rfl (ObLe.row (hq 0).symm) (SubH.cons rfl rfl (ObLe.row (hq 1).symm) (SubH.cons rfl rfl (ObLe.row (hq 2).symm) (SubH.cons rfl rfl (ObLe.row (hq 3).symm) (SubH.cons rfl rfl (ObLe.row (hq 4).symm) (SubH.cons rfl rfl (ObLe.row (hq 5).symm) (SubH.cons rfl rfl (ObLe.row (hq 6).symm) (SubH.cons rfl rfl (ObLe.row (hq 7).symm) SubH.nil)))))))))⟩
    (refine WP.skip ?_; show WP _ _ _ _ _ _)
    ((repeat apply WP.seq); apply WP.lreg; (first | refine ALK.n (opn_load rfl (eB rfl) rfl) rfl ?_ | refine ALK.r OpR.ld rfl ?_); refine ALK.n (opn_call (Locks_fn t hbt) (Evs.cons Ev.a Evs.nil)) rfl ?_; refine nM rfl rfl ?_; refine nX rfl rfl rfl ?_; refine nX rfl rfl rfl ?_; refine nA rfl rfl ?_; refine nA rfl rfl ?_; refine ALK.nil ?_; try show WP _ _ _ _ _ _)
    have hlk : lkL t = locksOf t := by unfold lkL; rw [if_pos hok]
    rw [hlk]
    have hll : (locksOf t).length ≤ 8 := locksTo_len t 8
    ((repeat apply WP.seq); apply WP.lreg; refine nM rfl rfl ?_; refine ALK.n OpN.ln rfl ?_; refine nM rfl rfl ?_; refine ALK.nil ?_; try show WP _ _ _ _ _ _)
    ((repeat apply WP.seq); apply WP.block)
    refine WP.loop (fun i : Nat => ⟨(32, .im (IV.int i)) :: (30, .im (locksV (locksOf t))) :: (31, .im (IV.int (locksOf t).length)) :: (6, .im (IV.int n)) :: [(16, .im (IV.int n)), (14, .im (txsV l)), (15, .im (IV.int l.length)), (1, .im (boolsV done)), (5, .off 0 0)], [(0, .blk 97 [.row 1 (qOf l done n 0 ++ qIn t n i 0).length, .row 2 (qOf l done n 1 ++ qIn t n i 1).length, .row 3 (qOf l done n 2 ++ qIn t n i 2).length, .row 4 (qOf l done n 3 ++ qIn t n i 3).length, .row 5 (qOf l done n 4 ++ qIn t n i 4).length, .row 6 (qOf l done n 5 ++ qIn t n i 5).length, .row 7 (qOf l done n 6 ++ qIn t n i 6).length, .row 8 (qOf l done n 7 ++ qIn t n i 7).length]), (1, .row 77 2 cW (qOf l done n 0 ++ qIn t n i 0)), (2, .row 77 2 cW (qOf l done n 1 ++ qIn t n i 1)), (3, .row 77 2 cW (qOf l done n 2 ++ qIn t n i 2)), (4, .row 77 2 cW (qOf l done n 3 ++ qIn t n i 3)), (5, .row 77 2 cW (qOf l done n 4 ++ qIn t n i 4)), (6, .row 77 2 cW (qOf l done n 5 ++ qIn t n i 5)), (7, .row 77 2 cW (qOf l done n 6 ++ qIn t n i 6)), (8, .row 77 2 cW (qOf l done n 7 ++ qIn t n i 7))], 9⟩) (fun i => i ≤ (locksOf t).length) (fun i => (locksOf t).length - i) 0 (Nat.zero_le _) (Shift.sub [(0, 0), (1, 1), (2, 2), (3, 3), (4, 4), (5, 5), (6, 6), (7, 7), (8, 8)] rfl SubE.a (SubH.cons rfl rfl (ObLe.blk (SLes.cons (SLe.row rfl (by simp [qIn])) (SLes.cons (SLe.row rfl (by simp [qIn])) (SLes.cons (SLe.row rfl (by simp [qIn])) (SLes.cons (SLe.row rfl (by simp [qIn])) (SLes.cons (SLe.row rfl (by simp [qIn])) (SLes.cons (SLe.row rfl (by simp [qIn])) (SLes.cons (SLe.row rfl (by simp [qIn])) (SLes.cons (SLe.row rfl (by simp [qIn])) SLes.nil))))))))) (SubH.cons rfl rfl (ObLe.row (by simp [qIn])) (SubH.cons rfl rfl (ObLe.row (by simp [qIn])) (SubH.cons rfl rfl (ObLe.row (by simp [qIn])) (SubH.cons rfl rfl (ObLe.row (by simp [qIn])) (SubH.cons rfl rfl (ObLe.row (by simp [qIn])) (SubH.cons rfl rfl (ObLe.row (by simp [qIn])) (SubH.cons rfl rfl (ObLe.row (by simp [qIn])) (SubH.cons rfl rfl (ObLe.row (by simp [qIn])) SubH.nil)))))))))) ?_
    rintro i hi
    ((repeat apply WP.seq); apply WP.lreg; refine ALK.n OpN.cm rfl ?_; refine ALK.nil ?_; try show WP _ _ _ _ _ _)
    ((repeat apply WP.seq); refine WP.cond rfl (fun h => ?_) (fun h => ?_))
    · (refine WP.skip ?_; show WP _ _ _ _ _ _)
      have hil : i < (locksOf t).length := by simpa using h
      obtain ⟨x, hx⟩ := get_at hil
      have hxm := (mem_locksOf hok).1 (List.mem_of_getElem? hx)
      obtain ⟨hk1, hk2⟩ := right_keys hok
      have hxr : 0 ≤ x.key ∧ x.key < 8 := hxm.1.elim (hk1 x.key) (hk2 x.key)
      have hnx := fun key => qIn_next (n := n) hx key
      have hlen : ∀ key, (qOf l done n key ++ qIn t n i key).length ≤ 80 := fun key => by
        have := qOf_len l done key n
        have := qIn_len t n key i
        rw [List.length_append]; omega
      ((repeat apply WP.seq); apply WP.block)
      ((repeat apply WP.seq); apply WP.lreg; refine ALK.n OpN.ix rfl ?_; (first | refine ALK.n (opn_load rfl (eB rfl) rfl) rfl ?_ | refine ALK.r OpR.ld rfl ?_); refine ALK.a (opa_alloc rfl rfl) rfl ?_; (first | refine ALK.e (ope_store rfl (eB rfl) (eB rfl) Cs.a rfl rfl rfl) rfl rfl ?_ | refine ALK.e (ope_storeRow rfl rfl (eB rfl) (eB rfl) (oc_val rfl) rfl rfl (by assumption)) rfl rfl ?_); refine ALK.nil ?_; try show WP _ _ _ _ _ _)
      refine WP.shift (Shift.frzBlk 11 rfl rfl rfl) ?_
      obtain ⟨xk, xw⟩ := x
      simp only at hxr hnx
      dsimp only [cL]
      have hcase : xk = 0 ∨ xk = 1 ∨ xk = 2 ∨ xk = 3 ∨ xk = 4 ∨ xk = 5 ∨ xk = 6 ∨ xk = 7 := by omega
      rcases hcase with rfl | rfl | rfl | rfl | rfl | rfl | rfl | rfl
      · ((repeat apply WP.seq); apply WP.ldraw; refine nM rfl rfl ?_; (first | refine ALK.n (opn_field (o := 0) rfl (eB rfl)) rfl ?_ | refine ALK.n (opn_fieldOff (o := 0) rfl (eB rfl)) rfl ?_); (first | refine ALK.n (opn_load rfl (eB rfl) rfl) rfl ?_ | refine ALK.r OpR.ld rfl ?_); refine nM rfl rfl ?_; (first | refine ALK.n (opn_field (o := 0) rfl (eB rfl)) rfl ?_ | refine ALK.n (opn_fieldOff (o := 0) rfl (eB rfl)) rfl ?_); (first | refine ALK.n (opn_load rfl (eB rfl) rfl) rfl ?_ | refine ALK.r OpR.ld rfl ?_); (first | refine ALK.n (opn_nilPtr (eB rfl)) rfl ?_ | refine ALK.n (opn_nilOff (eB rfl)) rfl ?_); refine ALK.n OpN.ix rfl ?_; (first | refine ALK.n (opn_load rfl (eB rfl) rfl) rfl ?_ | refine ALK.r OpR.ld rfl ?_); refine nM rfl rfl ?_; (first | refine ALK.n (opn_field (o := 1) rfl (eB rfl)) rfl ?_ | refine ALK.n (opn_fieldOff (o := 1) rfl (eB rfl)) rfl ?_); (first | refine ALK.n (opn_load rfl (eB rfl) rfl) rfl ?_ | refine ALK.r OpR.ld rfl ?_); (first | refine ALK.n (opn_build rfl rfl rfl rfl (Pc rfl (eB rfl) Cs.a rfl rfl (Pc rfl (eB rfl) Cs.a rfl rfl Parts.nil))) rfl ?_ | refine ALK.n (opn_buildA rfl rfl rfl rfl rfl (Pc rfl (eB rfl) Cs.a rfl rfl (Pc rfl (eB rfl) Cs.a rfl rfl Parts.nil))) rfl ?_); refine ALK.n (opn_slit rfl rfl rfl rfl rfl rfl (Pc rfl (eB rfl) Cs.a rfl rfl Parts.nil) rfl) rfl ?_; refine ALK.e (ope_append (b := 16) [(⟨n, xw⟩ : WaitT)] rfl rfl rfl rfl rfl (eB rfl) (eB rfl) rfl rfl (by have := hlen 0; simp only [List.length_cons, List.length_nil]; omega) rfl) rfl rfl ?_; (first | refine ALK.n (opn_nilPtr (eB rfl)) rfl ?_ | refine ALK.n (opn_nilOff (eB rfl)) rfl ?_); refine ALK.n OpN.ix rfl ?_; (first | refine ALK.e (ope_store rfl (eB rfl) (eB rfl) Cs.a rfl rfl rfl) rfl rfl ?_ | refine ALK.e (ope_storeRow rfl rfl (eB rfl) (eB rfl) (oc_val rfl) rfl rfl (by assumption)) rfl rfl ?_); refine ALK.nilD (by kernel_rfl) ?_; try show WP _ _ _ _ _ _)
        ((repeat apply WP.seq); apply WP.lreg; refine ALK.n OpN.ar rfl ?_; refine nM rfl rfl ?_; refine ALK.nil ?_; try show WP _ _ _ _ _ _)
        show ∃ _, _ ∧ _ ∧ _
        have e0 : qOf l done n 0 ++ qIn t n (i + 1) 0 = qOf l done n 0 ++ qIn t n i 0 ++ [(⟨n, xw⟩ : WaitT)] := by rw [hnx, if_pos rfl, List.append_assoc]
        have e1 : qOf l done n 1 ++ qIn t n (i + 1) 1 = qOf l done n 1 ++ qIn t n i 1 := by rw [hnx, if_neg (by decide), List.append_nil]
        have e2 : qOf l done n 2 ++ qIn t n (i + 1) 2 = qOf l done n 2 ++ qIn t n i 2 := by rw [hnx, if_neg (by decide), List.append_nil]
        have e3 : qOf l done n 3 ++ qIn t n (i + 1) 3 = qOf l done n 3 ++ qIn t n i 3 := by rw [hnx, if_neg (by decide), List.append_nil]
        have e4 : qOf l done n 4 ++ qIn t n (i + 1) 4 = qOf l done n 4 ++ qIn t n i 4 := by rw [hnx, if_neg (by decide), List.append_nil]
        have e5 : qOf l done n 5 ++ qIn t n (i + 1) 5 = qOf l done n 5 ++ qIn t n i 5 := by rw [hnx, if_neg (by decide), List.append_nil]
        have e6 : qOf l done n 6 ++ qIn t n (i + 1) 6 = qOf l done n 6 ++ qIn t n i 6 := by rw [hnx, if_neg (by decide), List.append_nil]
        have e7 : qOf l done n 7 ++ qIn t n (i + 1) 7 = qOf l done n 7 ++ qIn t n i 7 := by rw [hnx, if_neg (by decide), List.append_nil]
        exact ⟨i + 1, by omega, by omega, Shift.sub [(0, 0), (1, 10), (2, 2), (3, 3), (4, 4), (5, 5), (6, 6), (7, 7), (8, 8)] rfl SubE.a (SubH.cons rfl rfl (ObLe.blk (SLes.cons (SLe.row rfl (by simp only [e0, List.length_append])) (SLes.cons (SLe.row rfl (by rw [e1])) (SLes.cons (SLe.row rfl (by rw [e2])) (SLes.cons (SLe.row rfl (by rw [e3])) (SLes.cons (SLe.row rfl (by rw [e4])) (SLes.cons (SLe.row rfl (by rw [e5])) (SLes.cons (SLe.row rfl (by rw [e6])) (SLes.cons (SLe.row rfl (by rw [e7])) SLes.nil))))))))) (SubH.cons rfl rfl (ObLe.row e0.symm) (SubH.cons rfl rfl (ObLe.row e1.symm) (SubH.cons rfl rfl (ObLe.row e2.symm) (SubH.cons rfl rfl (ObLe.row e3.symm) (SubH.cons rfl rfl (ObLe.row e4.symm) (SubH.cons rfl rfl (ObLe.row e5.symm) (SubH.cons rfl rfl (ObLe.row e6.symm) (SubH.cons rfl rfl (ObLe.row e7.symm) SubH.nil)))))))))⟩
      · ((repeat apply WP.seq); apply WP.ldraw; refine nM rfl rfl ?_; (first | refine ALK.n (opn_field (o := 0) rfl (eB rfl)) rfl ?_ | refine ALK.n (opn_fieldOff (o := 0) rfl (eB rfl)) rfl ?_); (first | refine ALK.n (opn_load rfl (eB rfl) rfl) rfl ?_ | refine ALK.r OpR.ld rfl ?_); refine nM rfl rfl ?_; (first | refine ALK.n (opn_field (o := 0) rfl (eB rfl)) rfl ?_ | refine ALK.n (opn_fieldOff (o := 0) rfl (eB rfl)) rfl ?_); (first | refine ALK.n (opn_load rfl (eB rfl) rfl) rfl ?_ | refine ALK.r OpR.ld rfl ?_); (first | refine ALK.n (opn_nilPtr (eB rfl)) rfl ?_ | refine ALK.n (opn_nilOff (eB rfl)) rfl ?_); refine ALK.n OpN.ix rfl ?_; (first | refine ALK.n (opn_load rfl (eB rfl) rfl) rfl ?_ | refine ALK.r OpR.ld rfl ?_); refine nM rfl rfl ?_; (first | refine ALK.n (opn_field (o := 1) rfl (eB rfl)) rfl ?_ | refine ALK.n (opn_fieldOff (o := 1) rfl (eB rfl)) rfl ?_); (first | refine ALK.n (opn_load rfl (eB rfl) rfl) rfl ?_ | refine ALK.r OpR.ld rfl ?_); (first | refine ALK.n (opn_build rfl rfl rfl rfl (Pc rfl (eB rfl) Cs.a rfl rfl (Pc rfl (eB rfl) Cs.a rfl rfl Parts.nil))) rfl ?_ | refine ALK.n (opn_buildA rfl rfl rfl rfl rfl (Pc rfl (eB rfl) Cs.a rfl rfl (Pc rfl (eB rfl) Cs.a rfl rfl Parts.nil))) rfl ?_); refine ALK.n (opn_slit rfl rfl rfl rfl rfl rfl (Pc rfl (eB rfl) Cs.a rfl rfl Parts.nil) rfl) rfl ?_; refine ALK.e (ope_append (b := 16) [(⟨n, xw⟩ : WaitT)] rfl rfl rfl rfl rfl (eB rfl) (eB rfl) rfl rfl (by have := hlen 1; simp only [List.length_cons, List.length_nil]; omega) rfl) rfl rfl ?_; (first | refine ALK.n (opn_nilPtr (eB rfl)) rfl ?_ | refine ALK.n (opn_nilOff (eB rfl)) rfl ?_); refine ALK.n OpN.ix rfl ?_; (first | refine ALK.e (ope_store rfl (eB rfl) (eB rfl) Cs.a rfl rfl rfl) rfl rfl ?_ | refine ALK.e (ope_storeRow rfl rfl (eB rfl) (eB rfl) (oc_val rfl) rfl rfl (by assumption)) rfl rfl ?_); refine ALK.nilD (by kernel_rfl) ?_; try show WP _ _ _ _ _ _)
        ((repeat apply WP.seq); apply WP.lreg; refine ALK.n OpN.ar rfl ?_; refine nM rfl rfl ?_; refine ALK.nil ?_; try show WP _ _ _ _ _ _)
        show ∃ _, _ ∧ _ ∧ _
        have e0 : qOf l done n 0 ++ qIn t n (i + 1) 0 = qOf l done n 0 ++ qIn t n i 0 := by rw [hnx, if_neg (by decide), List.append_nil]
        have e1 : qOf l done n 1 ++ qIn t n (i + 1) 1 = qOf l done n 1 ++ qIn t n i 1 ++ [(⟨n, xw⟩ : WaitT)] := by rw [hnx, if_pos rfl, List.append_assoc]
        have e2 : qOf l done n 2 ++ qIn t n (i + 1) 2 = qOf l done n 2 ++ qIn t n i 2 := by rw [hnx, if_neg (by decide), List.append_nil]
        have e3 : qOf l done n 3 ++ qIn t n (i + 1) 3 = qOf l done n 3 ++ qIn t n i 3 := by rw [hnx, if_neg (by decide), List.append_nil]
        have e4 : qOf l done n 4 ++ qIn t n (i + 1) 4 = qOf l done n 4 ++ qIn t n i 4 := by rw [hnx, if_neg (by decide), List.append_nil]
        have e5 : qOf l done n 5 ++ qIn t n (i + 1) 5 = qOf l done n 5 ++ qIn t n i 5 := by rw [hnx, if_neg (by decide), List.append_nil]
        have e6 : qOf l done n 6 ++ qIn t n (i + 1) 6 = qOf l done n 6 ++ qIn t n i 6 := by rw [hnx, if_neg (by decide), List.append_nil]
        have e7 : qOf l done n 7 ++ qIn t n (i + 1) 7 = qOf l done n 7 ++ qIn t n i 7 := by rw [hnx, if_neg (by decide), List.append_nil]
        exact ⟨i + 1, by omega, by omega, Shift.sub [(0, 0), (1, 1), (2, 10), (3, 3), (4, 4), (5, 5), (6, 6), (7, 7), (8, 8)] rfl SubE.a (SubH.cons rfl rfl (ObLe.blk (SLes.cons (SLe.row rfl (by rw [e0])) (SLes.cons (SLe.row rfl (by simp only [e1, List.length_append])) (SLes.cons (SLe.row rfl (by rw [e2])) (SLes.cons (SLe.row rfl (by rw [e3])) (SLes.cons (SLe.row rfl (by rw [e4])) (SLes.cons (SLe.row rfl (by rw [e5])) (SLes.cons (SLe.row rfl (by rw [e6])) (SLes.cons (SLe.row rfl (by rw [e7])) SLes.nil))))))))) (SubH.cons rfl rfl (ObLe.row e0.symm) (SubH.cons rfl rfl (ObLe.row e1.symm) (SubH.cons rfl rfl (ObLe.row e2.symm) (SubH.cons rfl rfl (ObLe.row e3.symm) (SubH.cons rfl rfl (ObLe.row e4.symm) (SubH.cons rfl rfl (ObLe.row e5.symm) (SubH.cons rfl rfl (ObLe.row e6.symm) (SubH.cons rfl rfl (ObLe.row e7.symm) SubH.nil)))))))))⟩
      · ((repeat apply WP.seq); apply WP.ldraw; refine nM rfl rfl ?_; (first | refine ALK.n (opn_field (o := 0) rfl (eB rfl)) rfl ?_ | refine ALK.n (opn_fieldOff (o := 0) rfl (eB rfl)) rfl ?_); (first | refine ALK.n (opn_load rfl (eB rfl) rfl) rfl ?_ | refine ALK.r OpR.ld rfl ?_); refine nM rfl rfl ?_; (first | refine ALK.n (opn_field (o := 0) rfl (eB rfl)) rfl ?_ | refine ALK.n (opn_fieldOff (o := 0) rfl (eB rfl)) rfl ?_); (first | refine ALK.n (opn_load rfl (eB rfl) rfl) rfl ?_ | refine ALK.r OpR.ld rfl ?_); (first | refine ALK.n (opn_nilPtr (eB rfl)) rfl ?_ | refine ALK.n (opn_nilOff (eB rfl)) rfl ?_); refine ALK.n OpN.ix rfl ?_; (first | refine ALK.n (opn_load rfl (eB rfl) rfl) rfl ?_ | refine ALK.r OpR.ld rfl ?_); refine nM rfl rfl ?_; (first | refine ALK.n (opn_field (o := 1) rfl (eB rfl)) rfl ?_ | refine ALK.n (opn_fieldOff (o := 1) rfl (eB rfl)) rfl ?_); (first | refine ALK.n (opn_load rfl (eB rfl) rfl) rfl ?_ | refine ALK.r OpR.ld rfl ?_); (first | refine ALK.n (opn_build rfl rfl rfl rfl (Pc rfl (eB rfl) Cs.a rfl rfl (Pc rfl (eB rfl) Cs.a rfl rfl Parts.nil))) rfl ?_ | refine ALK.n (opn_buildA rfl rfl rfl rfl rfl (Pc rfl (eB rfl) Cs.a rfl rfl (Pc rfl (eB rfl) Cs.a rfl rfl Parts.nil))) rfl ?_); refine ALK.n (opn_slit rfl rfl rfl rfl rfl rfl (Pc rfl (eB rfl) Cs.a rfl rfl Parts.nil) rfl) rfl ?_; refine ALK.e (ope_append (b := 16) [(⟨n, xw⟩ : WaitT)] rfl rfl rfl rfl rfl (eB rfl) (eB rfl) rfl rfl (by have := hlen 2; simp only [List.length_cons, List.length_nil]; omega) rfl) rfl rfl ?_; (first | refine ALK.n (opn_nilPtr (eB rfl)) rfl ?_ | refine ALK.n (opn_nilOff (eB rfl)) rfl ?_); refine ALK.n OpN.ix rfl ?_; (first | refine ALK.e (ope_store rfl (eB rfl) (eB rfl) Cs.a rfl rfl rfl) rfl rfl ?_ | refine ALK.e (ope_storeRow rfl rfl (eB rfl) (eB rfl) (oc_val rfl) rfl rfl (by assumption)) rfl rfl ?_); refine ALK.nilD (by kernel_rfl) ?_; try show WP _ _ _ _ _ _)
        ((repeat apply WP.seq); apply WP.lreg; refine ALK.n OpN.ar rfl ?_; refine nM rfl rfl ?_; refine ALK.nil ?_; try show WP _ _ _ _ _ _)
        show ∃ _, _ ∧ _ ∧ _
        have e0 : qOf l done n 0 ++ qIn t n (i + 1) 0 = qOf l done n 0 ++ qIn t n i 0 := by rw [hnx, if_neg (by decide), List.append_nil]
        have e1 : qOf l done n 1 ++ qIn t n (i + 1) 1 = qOf l done n 1 ++ qIn t n i 1 := by rw [hnx, if_neg (by decide), List.append_nil]
        have e2 : qOf l done n 2 ++ qIn t n (i + 1) 2 = qOf l done n 2 ++ qIn t n i 2 ++ [(⟨n, xw⟩ : WaitT)] := by rw [hnx, if_pos rfl, List.append_assoc]
        have e3 : qOf l done n 3 ++ qIn t n (i + 1) 3 = qOf l done n 3 ++ qIn t n i 3 := by rw [hnx, if_neg (by decide), List.append_nil]
        have e4 : qOf l done n 4 ++ qIn t n (i + 1) 4 = qOf l done n 4 ++ qIn t n i 4 := by rw [hnx, if_neg (by decide), List.append_nil]
        have e5 : qOf l done n 5 ++ qIn t n (i + 1) 5 = qOf l done n 5 ++ qIn t n i 5 := by rw [hnx, if_neg (by decide), List.append_nil]
        have e6 : qOf l done n 6 ++ qIn t n (i + 1) 6 = qOf l done n 6 ++ qIn t n i 6 := by rw [hnx, if_neg (by decide), List.append_nil]
        have e7 : qOf l done n 7 ++ qIn t n (i + 1) 7 = qOf l done n 7 ++ qIn t n i 7 := by rw [hnx, if_neg (by decide), List.append_nil]
        exact ⟨i + 1, by omega, by omega, Shift.sub [(0, 0), (1, 1), (2, 2), (3, 10), (4, 4), (5, 5), (6, 6), (7, 7), (8, 8)] rfl SubE.a (SubH.cons rfl rfl (ObLe.blk (SLes.cons (SLe.row rfl (by rw [e0])) (SLes.cons (SLe.row rfl (by rw [e1])) (SLes.cons (SLe.row rfl (by simp only [e2, List.length_append])) (SLes.cons (SLe.row rfl (by rw [e3])) (SLes.cons (SLe.row rfl (by rw [e4])) (SLes.cons (SLe.row rfl (by rw [e5])) (SLes.cons (SLe.row rfl (by rw [e6])) (SLes.cons (SLe.row rfl (by rw [e7])) SLes.nil))))))))) (SubH.cons rfl rfl (ObLe.row e0.symm) (SubH.cons rfl rfl (ObLe.row e1.symm) (SubH.cons rfl rfl (ObLe.row e2.symm) (SubH.cons rfl rfl (ObLe.row e3.symm) (SubH.cons rfl rfl (ObLe.row e4.symm) (SubH.cons rfl rfl (ObLe.row e5.symm) (SubH.cons rfl rfl (ObLe.row e6.symm) (SubH.cons rfl rfl (ObLe.row e7.symm) SubH.nil)))))))))⟩
      · ((repeat apply WP.seq); apply WP.ldraw; refine nM rfl rfl ?_; (first | refine ALK.n (opn_field (o := 0) rfl (eB rfl)) rfl ?_ | refine ALK.n (opn_fieldOff (o := 0) rfl (eB rfl)) rfl ?_); (first | refine ALK.n (opn_load rfl (eB rfl) rfl) rfl ?_ | refine ALK.r OpR.ld rfl ?_); refine nM rfl rfl ?_; (first | refine ALK.n (opn_field (o := 0) rfl (eB rfl)) rfl ?_ | refine ALK.n (opn_fieldOff (o := 0) rfl (eB rfl)) rfl ?_); (first | refine ALK.n (opn_load rfl (eB rfl) rfl) rfl ?_ | refine ALK.r OpR.ld rfl ?_); (first | refine ALK.n (opn_nilPtr (eB rfl)) rfl ?_ | refine ALK.n (opn_nilOff (eB rfl)) rfl ?_); refine ALK.n OpN.ix rfl ?_; (first | refine ALK.n (opn_load rfl (eB rfl) rfl) rfl ?_ | refine ALK.r OpR.ld rfl ?_); refine nM rfl rfl ?_; (first | refine ALK.n (opn_field (o := 1) rfl (eB rfl)) rfl ?_ | refine ALK.n (opn_fieldOff (o := 1) rfl (eB rfl)) rfl ?_); (first | refine ALK.n (opn_load rfl (eB rfl) rfl) rfl ?_ | refine ALK.r OpR.ld rfl ?_); (first | refine ALK.n (opn_build rfl rfl rfl rfl (Pc rfl (eB rfl) Cs.a rfl rfl (Pc rfl (eB rfl) Cs.a rfl rfl Parts.nil))) rfl ?_ | refine ALK.n (opn_buildA rfl rfl rfl rfl rfl (Pc rfl (eB rfl) Cs.a rfl rfl (Pc rfl (eB rfl) Cs.a rfl rfl Parts.nil))) rfl ?_); refine ALK.n (opn_slit rfl rfl rfl rfl rfl rfl (Pc rfl (eB rfl) Cs.a rfl rfl Parts.nil) rfl) rfl ?_; refine ALK.e (ope_append (b := 16) [(⟨n, xw⟩ : WaitT)] rfl rfl rfl rfl rfl (eB rfl) (eB rfl) rfl rfl (by have := hlen 3; simp only [List.length_cons, List.length_nil]; omega) rfl) rfl rfl ?_; (first | refine ALK.n (opn_nilPtr (eB rfl)) rfl ?_ | refine ALK.n (opn_nilOff (eB rfl)) rfl ?_); refine ALK.n OpN.ix rfl ?_; (first | refine ALK.e (ope_store rfl (eB rfl) (eB rfl) Cs.a rfl rfl rfl) rfl rfl ?_ | refine ALK.e (ope_storeRow rfl rfl (eB rfl) (eB rfl) (oc_val rfl) rfl rfl (by assumption)) rfl rfl ?_); refine ALK.nilD (by kernel_rfl) ?_; try show WP _ _ _ _ _ _)
        ((repeat apply WP.seq); apply WP.lreg; refine ALK.n OpN.ar rfl ?_; refine nM rfl rfl ?_; refine ALK.nil ?_; try show WP _ _ _ _ _ _)
        show ∃ _, _ ∧ _ ∧ _
        have e0 : qOf l done n 0 ++ qIn t n (i + 1) 0 = qOf l done n 0 ++ qIn t n i 0 := by rw [hnx, if_neg (by decide), List.append_nil]
        have e1 : qOf l done n 1 ++ qIn t n (i + 1) 1 = qOf l done n 1 ++ qIn t n i 1 := by rw [hnx, if_neg (by decide), List.append_nil]
        have e2 : qOf l done n 2 ++ qIn t n (i + 1) 2 = qOf l done n 2 ++ qIn t n i 2 := by rw [hnx, if_neg (by decide), List.append_nil]
        have e3 : qOf l done n 3 ++ qIn t n (i + 1) 3 = qOf l done n 3 ++ qIn t n i 3 ++ [(⟨n, xw⟩ : WaitT)] := by rw [hnx, if_pos rfl, List.append_assoc]
        have e4 : qOf l done n 4 ++ qIn t n (i + 1) 4 = qOf l done n 4 ++ qIn t n i 4 := by rw [hnx, if_neg (by decide), List.append_nil]
        have e5 : qOf l done n 5 ++ qIn t n (i + 1) 5 = qOf l done n 5 ++ qIn t n i 5 := by rw [hnx, if_neg (by decide), List.append_nil]
        have e6 : qOf l done n 6 ++ qIn t n (i + 1) 6 = qOf l done n 6 ++ qIn t n i 6 := by rw [hnx, if_neg (by decide), List.append_nil]
        have e7 : qOf l done n 7 ++ qIn t n (i + 1) 7 = qOf l done n 7 ++ qIn t n i 7 := by rw [hnx, if_neg (by decide), List.append_nil]
        exact ⟨i + 1, by omega, by omega, Shift.sub [(0, 0), (1, 1), (2, 2), (3, 3), (4, 10), (5, 5), (6, 6), (7, 7), (8, 8)] rfl SubE.a (SubH.cons rfl rfl (ObLe.blk (SLes.cons (SLe.row rfl (by rw [e0])) (SLes.cons (SLe.row rfl (by rw [e1])) (SLes.cons (SLe.row rfl (by rw [e2])) (SLes.cons (SLe.row rfl (by simp only [e3, List.length_append])) (SLes.cons (SLe.row rfl (by rw [e4])) (SLes.cons (SLe.row rfl (by rw [e5])) (SLes.cons (SLe.row rfl (by rw [e6])) (SLes.cons (SLe.row rfl (by rw [e7])) SLes.nil))))))))) (SubH.cons rfl rfl (ObLe.row e0.symm) (SubH.cons rfl rfl (ObLe.row e1.symm) (SubH.cons rfl rfl (ObLe.row e2.symm) (SubH.cons rfl rfl (ObLe.row e3.symm) (SubH.cons rfl rfl (ObLe.row e4.symm) (SubH.cons rfl rfl (ObLe.row e5.symm) (SubH.cons rfl rfl (ObLe.row e6.symm) (SubH.cons rfl rfl (ObLe.row e7.symm) SubH.nil)))))))))⟩
      · ((repeat apply WP.seq); apply WP.ldraw; refine nM rfl rfl ?_; (first | refine ALK.n (opn_field (o := 0) rfl (eB rfl)) rfl ?_ | refine ALK.n (opn_fieldOff (o := 0) rfl (eB rfl)) rfl ?_); (first | refine ALK.n (opn_load rfl (eB rfl) rfl) rfl ?_ | refine ALK.r OpR.ld rfl ?_); refine nM rfl rfl ?_; (first | refine ALK.n (opn_field (o := 0) rfl (eB rfl)) rfl ?_ | refine ALK.n (opn_fieldOff (o := 0) rfl (eB rfl)) rfl ?_); (first | refine ALK.n (opn_load rfl (eB rfl) rfl) rfl ?_ | refine ALK.r OpR.ld rfl ?_); (first | refine ALK.n (opn_nilPtr (eB rfl)) rfl ?_ | refine ALK.n (opn_nilOff (eB rfl)) rfl ?_); refine ALK.n OpN.ix rfl ?_; (first | refine ALK.n (opn_load rfl (eB rfl) rfl) rfl ?_ | refine ALK.r OpR.ld rfl ?_); refine nM rfl rfl ?_; (first | refine ALK.n (opn_field (o := 1) rfl (eB rfl)) rfl ?_ | refine ALK.n (opn_fieldOff (o := 1) rfl (eB rfl)) rfl ?_); (first | refine ALK.n (opn_load rfl (eB rfl) rfl) rfl ?_ | refine ALK.r OpR.ld rfl ?_); (first | refine ALK.n (opn_build rfl rfl rfl rfl (Pc rfl (eB rfl) Cs.a rfl rfl (Pc rfl (eB rfl) Cs.a rfl rfl Parts.nil))) rfl ?_ | refine ALK.n (opn_buildA rfl rfl rfl rfl rfl (Pc rfl (eB rfl) Cs.a rfl rfl (Pc rfl (eB rfl) Cs.a rfl rfl Parts.nil))) rfl ?_); refine ALK.n (opn_slit rfl rfl rfl rfl rfl rfl (Pc rfl (eB rfl) Cs.a rfl rfl Parts.nil) rfl) rfl ?_; refine ALK.e (ope_append (b := 16) [(⟨n, xw⟩ : WaitT)] rfl rfl rfl rfl rfl (eB rfl) (eB rfl) rfl rfl (by have := hlen 4; simp only [List.length_cons, List.length_nil]; omega) rfl) rfl rfl ?_; (first | refine ALK.n (opn_nilPtr (eB rfl)) rfl ?_ | refine ALK.n (opn_nilOff (eB rfl)) rfl ?_); refine ALK.n OpN.ix rfl ?_; (first | refine ALK.e (ope_store rfl (eB rfl) (eB rfl) Cs.a rfl rfl rfl) rfl rfl ?_ | refine ALK.e (ope_storeRow rfl rfl (eB rfl) (eB rfl) (oc_val rfl) rfl rfl (by assumption)) rfl rfl ?_); refine ALK.nilD (by kernel_rfl) ?_; try show WP _ _ _ _ _ _)
        ((repeat apply WP.seq); apply WP.lreg; refine ALK.n OpN.ar rfl ?_; refine nM rfl rfl ?_; refine ALK.nil ?_; try show WP _ _ _ _ _ _)
        show ∃ _, _ ∧ _ ∧ _
        have e0 : qOf l done n 0 ++ qIn t n (i + 1) 0 = qOf l done n 0 ++ qIn t n i 0 := by rw [hnx, if_neg (by decide), List.append_nil]
        have e1 : qOf l done n 1 ++ qIn t n (i + 1) 1 = qOf l done n 1 ++ qIn t n i 1 := by rw [hnx, if_neg (by decide), List.append_nil]
        have e2 : qOf l done n 2 ++ qIn t n (i + 1) 2 = qOf l done n 2 ++ qIn t n i 2 := by rw [hnx, if_neg (by decide), List.append_nil]
        have e3 : qOf l done n 3 ++ qIn t n (i + 1) 3 = qOf l done n 3 ++ qIn t n i 3 := by rw [hnx, if_neg (by decide), List.append_nil]
        have e4 : qOf l done n 4 ++ qIn t n (i + 1) 4 = qOf l done n 4 ++ qIn t n i 4 ++ [(⟨n, xw⟩ : WaitT)] := by rw [hnx, if_pos rfl, List.append_assoc]
        have e5 : qOf l done n 5 ++ qIn t n (i + 1) 5 = qOf l done n 5 ++ qIn t n i 5 := by rw [hnx, if_neg (by decide), List.append_nil]
        have e6 : qOf l done n 6 ++ qIn t n (i + 1) 6 = qOf l done n 6 ++ qIn t n i 6 := by rw [hnx, if_neg (by decide), List.append_nil]
        have e7 : qOf l done n 7 ++ qIn t n (i + 1) 7 = qOf l done n 7 ++ qIn t n i 7 := by rw [hnx, if_neg (by decide), List.append_nil]
        exact ⟨i + 1, by omega, by omega, Shift.sub [(0, 0), (1, 1), (2, 2), (3, 3), (4, 4), (5, 10), (6, 6), (7, 7), (8, 8)] rfl SubE.a (SubH.cons rfl rfl (ObLe.blk (SLes.cons (SLe.row rfl (by rw [e0])) (SLes.cons (SLe.row rfl (by rw [e1])) (SLes.cons (SLe.row rfl (by rw [e2])) (SLes.cons (SLe.row rfl (by rw [e3])) (SLes.cons (SLe.row rfl (by simp only [e4, List.length_append])) (SLes.cons (SLe.row rfl (by rw [e5])) (SLes.cons (SLe.row rfl (by rw [e6])) (SLes.cons (SLe.row rfl (by rw [e7])) SLes.nil))))))))) (SubH.cons rfl rfl (ObLe.row e0.symm) (SubH.cons rfl rfl (ObLe.row e1.symm) (SubH.cons rfl rfl (ObLe.row e2.symm) (SubH.cons rfl rfl (ObLe.row e3.symm) (SubH.cons rfl rfl (ObLe.row e4.symm) (SubH.cons rfl rfl (ObLe.row e5.symm) (SubH.cons rfl rfl (ObLe.row e6.symm) (SubH.cons rfl rfl (ObLe.row e7.symm) SubH.nil)))))))))⟩
      · ((repeat apply WP.seq); apply WP.ldraw; refine nM rfl rfl ?_; (first | refine ALK.n (opn_field (o := 0) rfl (eB rfl)) rfl ?_ | refine ALK.n (opn_fieldOff (o := 0) rfl (eB rfl)) rfl ?_); (first | refine ALK.n (opn_load rfl (eB rfl) rfl) rfl ?_ | refine ALK.r OpR.ld rfl ?_); refine nM rfl rfl ?_; (first | refine ALK.n (opn_field (o := 0) rfl (eB rfl)) rfl ?_ | refine ALK.n (opn_fieldOff (o := 0) rfl (eB rfl)) rfl ?_); (first | refine ALK.n (opn_load rfl (eB rfl) rfl) rfl ?_ | refine ALK.r OpR.ld rfl ?_); (first | refine ALK.n (opn_nilPtr (eB rfl)) rfl ?_ | refine ALK.n (opn_nilOff (eB rfl)) rfl ?_); refine ALK.n OpN.ix rfl ?_; (first | refine ALK.n (opn_load rfl (eB rfl) rfl) rfl ?_ | refine ALK.r OpR.ld rfl ?_); refine nM rfl rfl ?_; (first | refine ALK.n (opn_field (o := 1) rfl (eB rfl)) rfl ?_ | refine ALK.n (opn_fieldOff (o := 1) rfl (eB rfl)) rfl ?_); (first | refine ALK.n (opn_load rfl (eB rfl) rfl) rfl ?_ | refine ALK.r OpR.ld rfl ?_); (first | refine ALK.n (opn_build rfl rfl rfl rfl (Pc rfl (eB rfl) Cs.a rfl rfl (Pc rfl (eB rfl) Cs.a rfl rfl Parts.nil))) rfl ?_ | refine ALK.n (opn_buildA rfl rfl rfl rfl rfl (Pc rfl (eB rfl) Cs.a rfl rfl (Pc rfl (eB rfl) Cs.a rfl rfl Parts.nil))) rfl ?_); refine ALK.n (opn_slit rfl rfl rfl rfl rfl rfl (Pc rfl (eB rfl) Cs.a rfl rfl Parts.nil) rfl) rfl ?_; refine ALK.e (ope_append (b := 16) [(⟨n, xw⟩ : WaitT)] rfl rfl rfl rfl rfl (eB rfl) (eB rfl) rfl rfl (by have := hlen 5; simp only [List.length_cons, List.length_nil]; omega) rfl) rfl rfl ?_; (first | refine ALK.n (opn_nilPtr (eB rfl)) rfl ?_ | refine ALK.n (opn_nilOff (eB rfl)) rfl ?_); refine ALK.n OpN.ix rfl ?_; (first | refine ALK.e (ope_store rfl (eB rfl) (eB rfl) Cs.a rfl rfl rfl) rfl rfl ?_ | refine ALK.e (ope_storeRow rfl rfl (eB rfl) (eB rfl) (oc_val rfl) rfl rfl (by assumption)) rfl rfl ?_); refine ALK.nilD (by kernel_rfl) ?_; try show WP _ _ _ _ _ _)
        ((repeat apply WP.seq); apply WP.lreg; refine ALK.n OpN.ar rfl ?_; refine nM rfl rfl ?_; refine ALK.nil ?_; try show WP _ _ _ _ _ _)
        show ∃ _, _ ∧ _ ∧ _
        have e0 : qOf l done n 0 ++ qIn t n (i + 1) 0 = qOf l done n 0 ++ qIn t n i 0 := by rw [hnx, if_neg (by decide), List.append_nil]
        have e1 : qOf l done n 1 ++ qIn t n (i + 1) 1 = qOf l done n 1 ++ qIn t n i 1 := by rw [hnx, if_neg (by decide), List.append_nil]
        have e2 : qOf l done n 2 ++ qIn t n (i + 1) 2 = qOf l done n 2 ++ qIn t n i 2 := by rw [hnx, if_neg (by decide), List.append_nil]
        have e3 : qOf l done n 3 ++ qIn t n (i + 1) 3 = qOf l done n 3 ++ qIn t n i 3 := by rw [hnx, if_neg (by decide), List.append_nil]
        have e4 : qOf l done n 4 ++ qIn t n (i + 1) 4 = qOf l done n 4 ++ qIn t n i 4 := by rw [hnx, if_neg (by decide), List.append_nil]
        have e5 : qOf l done n 5 ++ qIn t n (i + 1) 5 = qOf l done n 5 ++ qIn t n i 5 ++ [(⟨n, xw⟩ : WaitT)] := by rw [hnx, if_pos rfl, List.append_assoc]
        have e6 : qOf l done n 6 ++ qIn t n (i + 1) 6 = qOf l done n 6 ++ qIn t n i 6 := by rw [hnx, if_neg (by decide), List.append_nil]
        have e7 : qOf l done n 7 ++ qIn t n (i + 1) 7 = qOf l done n 7 ++ qIn t n i 7 := by rw [hnx, if_neg (by decide), List.append_nil]
        exact ⟨i + 1, by omega, by omega, Shift.sub [(0, 0), (1, 1), (2, 2), (3, 3), (4, 4), (5, 5), (6, 10), (7, 7), (8, 8)] rfl SubE.a (SubH.cons rfl rfl (ObLe.blk (SLes.cons (SLe.row rfl (by rw [e0])) (SLes.cons (SLe.row rfl (by rw [e1])) (SLes.cons (SLe.row rfl (by rw [e2])) (SLes.cons (SLe.row rfl (by rw [e3])) (SLes.cons (SLe.row rfl (by rw [e4])) (SLes.cons (SLe.row rfl (by simp only [e5, List.length_append])) (SLes.cons (SLe.row rfl (by rw [e6])) (SLes.cons (SLe.row rfl (by rw [e7])) SLes.nil))))))))) (SubH.cons rfl rfl (ObLe.row e0.symm) (SubH.cons rfl rfl (ObLe.row e1.symm) (SubH.cons rfl rfl (ObLe.row e2.symm) (SubH.cons rfl rfl (ObLe.row e3.symm) (SubH.cons rfl rfl (ObLe.row e4.symm) (SubH.cons rfl rfl (ObLe.row e5.symm) (SubH.cons rfl rfl (ObLe.row e6.symm) (SubH.cons rfl rfl (ObLe.row e7.symm) SubH.nil)))))))))⟩
      · ((repeat apply WP.seq); apply WP.ldraw; refine nM rfl rfl ?_; (first | refine ALK.n (opn_field (o := 0) rfl (eB rfl)) rfl ?_ | refine ALK.n (opn_fieldOff (o := 0) rfl (eB rfl)) rfl ?_); (first | refine ALK.n (opn_load rfl (eB rfl) rfl) rfl ?_ | refine ALK.r OpR.ld rfl ?_); refine nM rfl rfl ?_; (first | refine ALK.n (opn_field (o := 0) rfl (eB rfl)) rfl ?_ | refine ALK.n (opn_fieldOff (o := 0) rfl (eB rfl)) rfl ?_); (first | refine ALK.n (opn_load rfl (eB rfl) rfl) rfl ?_ | refine ALK.r OpR.ld rfl ?_); (first | refine ALK.n (opn_nilPtr (eB rfl)) rfl ?_ | refine ALK.n (opn_nilOff (eB rfl)) rfl ?_); refine ALK.n OpN.ix rfl ?_; (first | refine ALK.n (opn_load rfl (eB rfl) rfl) rfl ?_ | refine ALK.r OpR.ld rfl ?_); refine nM rfl rfl ?_; (first | refine ALK.n (opn_field (o := 1) rfl (eB rfl)) rfl ?_ | refine ALK.n (opn_fieldOff (o := 1) rfl (eB rfl)) rfl ?_); (first | refine ALK.n (opn_load rfl (eB rfl) rfl) rfl ?_ | refine ALK.r OpR.ld rfl ?_); (first | refine ALK.n (opn_build rfl rfl rfl rfl (Pc rfl (eB rfl) Cs.a rfl rfl (Pc rfl (eB rfl) Cs.a rfl rfl Parts.nil))) rfl ?_ | refine ALK.n (opn_buildA rfl rfl rfl rfl rfl (Pc rfl (eB rfl) Cs.a rfl rfl (Pc rfl (eB rfl) Cs.a rfl rfl Parts.nil))) rfl ?_); refine ALK.n (opn_slit rfl rfl rfl rfl rfl rfl (Pc rfl (eB rfl) Cs.a rfl rfl Parts.nil) rfl) rfl ?_; refine ALK.e (ope_append (b := 16) [(⟨n, xw⟩ : WaitT)] rfl rfl rfl rfl rfl (eB rfl) (eB rfl) rfl rfl (by have := hlen 6; simp only [List.length_cons, List.length_nil]; omega) rfl) rfl rfl ?_; (first | refine ALK.n (opn_nilPtr (eB rfl)) rfl ?_ | refine ALK.n (opn_nilOff (eB rfl)) rfl ?_); refine ALK.n OpN.ix rfl ?_; (first | refine ALK.e (ope_store rfl (eB rfl) (eB rfl) Cs.a rfl rfl rfl) rfl rfl ?_ | refine ALK.e (ope_storeRow rfl rfl (eB rfl) (eB rfl) (oc_val rfl) rfl rfl (by assumption)) rfl rfl ?_); refine ALK.nilD (by kernel_rfl) ?_; try show WP _ _ _ _ _ _)
        ((repeat apply WP.seq); apply WP.lreg; refine ALK.n OpN.ar rfl ?_; refine nM rfl rfl ?_; refine ALK.nil ?_; try show WP _ _ _ _ _ _)
        show ∃ _, _ ∧ _ ∧ _
        have e0 : qOf l done n 0 ++ qIn t n (i + 1) 0 = qOf l done n 0 ++ qIn t n i 0 := by rw [hnx, if_neg (by decide), List.append_nil]
        have e1 : qOf l done n 1 ++ qIn t n (i + 1) 1 = qOf l done n 1 ++ qIn t n i 1 := by rw [hnx, if_neg (by decide), List.append_nil]
        have e2 : qOf l done n 2 ++ qIn t n (i + 1) 2 = qOf l done n 2 ++ qIn t n i 2 := by rw [hnx, if_neg (by decide), List.append_nil]
        have e3 : qOf l done n 3 ++ qIn t n (i + 1) 3 = qOf l done n 3 ++ qIn t n i 3 := by rw [hnx, if_neg (by decide), List.append_nil]
        have e4 : qOf l done n 4 ++ qIn t n (i + 1) 4 = qOf l done n 4 ++ qIn t n i 4 := by rw [hnx, if_neg (by decide), List.append_nil]
        have e5 : qOf l done n 5 ++ qIn t n (i + 1) 5 = qOf l done n 5 ++ qIn t n i 5 := by rw [hnx, if_neg (by decide), List.append_nil]
        have e6 : qOf l done n 6 ++ qIn t n (i + 1) 6 = qOf l done n 6 ++ qIn t n i 6 ++ [(⟨n, xw⟩ : WaitT)] := by rw [hnx, if_pos rfl, List.append_assoc]
        have e7 : qOf l done n 7 ++ qIn t n (i + 1) 7 = qOf l done n 7 ++ qIn t n i 7 := by rw [hnx, if_neg (by decide), List.append_nil]
        exact ⟨i + 1, by omega, by omega, Shift.sub [(0, 0), (1, 1), (2, 2), (3, 3), (4, 4), (5, 5), (6, 6), (7, 10), (8, 8)] rfl SubE.a (SubH.cons rfl rfl (ObLe.blk (SLes.cons (SLe.row rfl (by rw [e0])) (SLes.cons (SLe.row rfl (by rw [e1])) (SLes.cons (SLe.row rfl (by rw [e2])) (SLes.cons (SLe.row rfl (by rw [e3])) (SLes.cons (SLe.row rfl (by rw [e4])) (SLes.cons (SLe.row rfl (by rw [e5])) (SLes.cons (SLe.row rfl (by simp only [e6, List.length_append])) (SLes.cons (SLe.row rfl (by rw [e7])) SLes.nil))))))))) (SubH.cons rfl rfl (ObLe.row e0.symm) (SubH.cons rfl rfl (ObLe.row e1.symm) (SubH.cons rfl rfl (ObLe.row e2.symm) (SubH.cons rfl rfl (ObLe.row e3.symm) (SubH.cons rfl rfl (ObLe.row e4.symm) (SubH.cons rfl rfl (ObLe.row e5.symm) (SubH.cons rfl rfl (ObLe.row e6.symm) (SubH.cons rfl rfl (ObLe.row e7.symm) SubH.nil)))))))))⟩
      · ((repeat apply WP.seq); apply WP.ldraw; refine nM rfl rfl ?_; (first | refine ALK.n (opn_field (o := 0) rfl (eB rfl)) rfl ?_ | refine ALK.n (opn_fieldOff (o := 0) rfl (eB rfl)) rfl ?_); (first | refine ALK.n (opn_load rfl (eB rfl) rfl) rfl ?_ | refine ALK.r OpR.ld rfl ?_); refine nM rfl rfl ?_; (first | refine ALK.n (opn_field (o := 0) rfl (eB rfl)) rfl ?_ | refine ALK.n (opn_fieldOff (o := 0) rfl (eB rfl)) rfl ?_); (first | refine ALK.n (opn_load rfl (eB rfl) rfl) rfl ?_ | refine ALK.r OpR.ld rfl ?_); (first | refine ALK.n (opn_nilPtr (eB rfl)) rfl ?_ | refine ALK.n (opn_nilOff (eB rfl)) rfl ?_); refine ALK.n OpN.ix rfl ?_; (first | refine ALK.n (opn_load rfl (eB rfl) rfl) rfl ?_ | refine ALK.r OpR.ld rfl ?_); refine nM rfl rfl ?_; (first | refine ALK.n (opn_field (o := 1) rfl (eB rfl)) rfl ?_ | refine ALK.n (opn_fieldOff (o := 1) rfl (eB rfl)) rfl ?_); (first | refine ALK.n (opn_load rfl (eB rfl) rfl) rfl ?_ | refine ALK.r OpR.ld rfl ?_); (first | refine ALK.n (opn_build rfl rfl rfl rfl (Pc rfl (eB rfl) Cs.a rfl rfl (Pc rfl (eB rfl) Cs.a rfl rfl Parts.nil))) rfl ?_ | refine ALK.n (opn_buildA rfl rfl rfl rfl rfl (Pc rfl (eB rfl) Cs.a rfl rfl (Pc rfl (eB rfl) Cs.a rfl rfl Parts.nil))) rfl ?_); refine ALK.n (opn_slit rfl rfl rfl rfl rfl rfl (Pc rfl (eB rfl) Cs.a rfl rfl Parts.nil) rfl) rfl ?_; refine ALK.e (ope_append (b := 16) [(⟨n, xw⟩ : WaitT)] rfl rfl rfl rfl rfl (eB rfl) (eB rfl) rfl rfl (by have := hlen 7; simp only [List.length_cons, List.length_nil]; omega) rfl) rfl rfl ?_; (first | refine ALK.n (opn_nilPtr (eB rfl)) rfl ?_ | refine ALK.n (opn_nilOff (eB rfl)) rfl ?_); refine ALK.n OpN.ix rfl ?_; (first | refine ALK.e (ope_store rfl (eB rfl) (eB rfl) Cs.a rfl rfl rfl) rfl rfl ?_ | refine ALK.e (ope_storeRow rfl rfl (eB rfl) (eB rfl) (oc_val rfl) rfl rfl (by assumption)) rfl rfl ?_); refine ALK.nilD (by kernel_rfl) ?_; try show WP _ _ _ _ _ _)
        ((repeat apply WP.seq); apply WP.lreg; refine ALK.n OpN.ar rfl ?_; refine nM rfl rfl ?_; refine ALK.nil ?_; try show WP _ _ _ _ _ _)
        show ∃ _, _ ∧ _ ∧ _
        have e0 : qOf l done n 0 ++ qIn t n (i + 1) 0 = qOf l done n 0 ++ qIn t n i 0 := by rw [hnx, if_neg (by decide), List.append_nil]
        have e1 : qOf l done n 1 ++ qIn t n (i + 1) 1 = qOf l done n 1 ++ qIn t n i 1 := by rw [hnx, if_neg (by decide), List.append_nil]
        have e2 : qOf l done n 2 ++ qIn t n (i + 1) 2 = qOf l done n 2 ++ qIn t n i 2 := by rw [hnx, if_neg (by decide), List.append_nil]
        have e3 : qOf l done n 3 ++ qIn t n (i + 1) 3 = qOf l done n 3 ++ qIn t n i 3 := by rw [hnx, if_neg (by decide), List.append_nil]
        have e4 : qOf l done n 4 ++ qIn t n (i + 1) 4 = qOf l done n 4 ++ qIn t n i 4 := by rw [hnx, if_neg (by decide), List.append_nil]
        have e5 : qOf l done n 5 ++ qIn t n (i + 1) 5 = qOf l done n 5 ++ qIn t n i 5 := by rw [hnx, if_neg (by decide), List.append_nil]
        have e6 : qOf l done n 6 ++ qIn t n (i + 1) 6 = qOf l done n 6 ++ qIn t n i 6 := by rw [hnx, if_neg (by decide), List.append_nil]
        have e7 : qOf l done n 7 ++ qIn t n (i + 1) 7 = qOf l done n 7 ++ qIn t n i 7 ++ [(⟨n, xw⟩ : WaitT)] := by rw [hnx, if_pos rfl, List.append_assoc]
        exact ⟨i + 1, by omega, by omega, Shift.sub [(0, 0), (1, 1), (2, 2), (3, 3), (4, 4), (5, 5), (6, 6), (7, 7), (8, 10)] rfl SubE.a (SubH.cons rfl rfl (ObLe.blk (SLes.cons (SLe.row rfl (by rw [e0])) (SLes.cons (SLe.row rfl (by rw [e1])) (SLes.cons (SLe.row rfl (by rw [e2])) (SLes.cons (SLe.row rfl (by rw [e3])) (SLes.cons (SLe.row rfl (by rw [e4])) (SLes.cons (SLe.row rfl (by rw [e5])) (SLes.cons (SLe.row rfl (by rw [e6])) (SLes.cons (SLe.row rfl (by simp only [e7, List.length_append])) SLes.nil))))))))) (SubH.cons rfl rfl (ObLe.row e0.symm) (SubH.cons rfl rfl (ObLe.row e1.symm) (SubH.cons rfl rfl (ObLe.row e2.symm) (SubH.cons rfl rfl (ObLe.row e3.symm) (SubH.cons rfl rfl (ObLe.row e4.symm) (SubH.cons rfl rfl (ObLe.row e5.symm) (SubH.cons rfl rfl (ObLe.row e6.symm) (SubH.cons rfl rfl (ObLe.row e7.symm) SubH.nil)))))))))⟩
    · ((repeat apply WP.seq); refine WP.exit ?_; show WP _ _ _ _ _ _)
      have hie : i = (locksOf t).length := by simp at h; omega
      subst hie
      have hq : ∀ key, qOf l done (n + 1) key = qOf l done n key ++ qIn t n (locksOf t).length key := fun key => by
        rw [qOf_next]
        have : qAdd l done key n = qIn t n (locksOf t).length key := by
          unfold qAdd
          rw [ht, hbn, show b = false by assumption]
        rw [this]
      ((repeat apply WP.seq); apply WP.lreg; refine ALK.n OpN.ar rfl ?_; refine nM rfl rfl ?_; refine ALK.nil ?_; try show WP _ _ _ _ _ _)
      show ∃ _, _ ∧ _ ∧ _
      exact ⟨n + 1, by omega, by omega, Shift.sub [(0, 0), (1, 1), (2, 2), (3, 3), (4, 4), (5, 5), (6, 6), (7, 7), (8, 8)] rfl SubE.a (SubH.cons rfl rfl (ObLe.blk (SLes.cons (SLe.row rfl (by rw [hq])) (SLes.cons (SLe.row rfl (by rw [hq])) (SLes.cons (SLe.row rfl (by rw [hq])) (SLes.cons (SLe.row rfl (by rw [hq])) (SLes.cons (SLe.row rfl (by rw [hq])) (SLes.cons (SLe.row rfl (by rw [hq])) (SLes.cons (SLe.row rfl (by rw [hq])) (SLes.cons (SLe.row rfl (by rw [hq])) SLes.nil))))))))) (SubH.cons rfl rfl (ObLe.row (hq 0).symm) (SubH.cons rfl rfl (ObLe.row (hq 1).symm) (SubH.cons rfl rfl (ObLe.row (hq 2).symm) (SubH.cons rfl rfl (ObLe.row (hq 3).symm) (SubH.cons rfl rfl (ObLe.row (hq 4).symm) (SubH.cons rfl rfl (ObLe.row (hq 5).symm) (SubH.cons rfl rfl (ObLe.row (hq 6).symm) (SubH.cons rfl rfl (ObLe.row (hq 7).symm) SubH.nil)))))))))⟩
  · ((repeat apply WP.seq); refine WP.exit ?_; show WP _ _ _ _ _ _)
    have hne : n = l.length := by simp at h; omega
    subst hne
    refine WP.shift (Shift.frzIn 0 0 rfl rfl rfl rfl) ?_
    refine WP.shift (Shift.frzIn 0 1 rfl rfl rfl rfl) ?_
    refine WP.shift (Shift.frzIn 0 2 rfl rfl rfl rfl) ?_
    refine WP.shift (Shift.frzIn 0 3 rfl rfl rfl rfl) ?_
    refine WP.shift (Shift.frzIn 0 4 rfl rfl rfl rfl) ?_
    refine WP.shift (Shift.frzIn 0 5 rfl rfl rfl rfl) ?_
    refine WP.shift (Shift.frzIn 0 6 rfl rfl rfl rfl) ?_
    refine WP.shift (Shift.frzIn 0 7 rfl rfl rfl rfl) ?_
    refine WP.shift (Shift.frzBlk 5 rfl rfl rfl) ?_
    ((repeat apply WP.seq); apply WP.lreg; refine nM rfl rfl ?_; refine nA rfl rfl ?_; refine ALK.nil ?_; try show WP _ _ _ _ _ _)
    ((repeat apply WP.seq); refine WP.ret ?_; first | exact RetOk.one Try.results40 ResV.a | exact RetOk.tup Try.results40 rfl ResVs.a)
end Go.Proofs.Ytjgmbgfcffnanad
