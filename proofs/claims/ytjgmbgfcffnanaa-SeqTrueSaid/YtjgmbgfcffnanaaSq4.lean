/- Package seq: Merge and From, and their reference. -/
import Derived.Test.YtjgmbgfcffnanaaSq3
namespace Go.Proofs.Ytjgmbgfcffnanaa
open Go.RowKit

def fromB (bs : Bats) (n : Int) : TagT × Int := if seqE bs = 0 then (if n < 0 then (⟨0, 0, 0⟩, 5) else match (whereB bs)[n.toNat]? with
  | some w => (w, 0)
  | none => (⟨0, 0, 0⟩, 5)) else (⟨0, 0, 0⟩, seqE bs)
set_option maxRecDepth 100000 in
theorem MergeOf_fn (bs : Bats) (hb : BatsB bs) : Fn (Cfg.mk Try.prog (ttAt ttl) ttl_ok.ok mixd) 25 [batsV bs] (IV.tup [txsV (mergeB bs), IV.int (seqE bs)]) := by
  refine Fn.of_wp _ Try.func25 rfl (by kernel_rfl) Try.ntmps25 rfl ?_
  intro F hD hG
  ((repeat apply WP.seq); apply WP.lreg; refine nA rfl rfl ?_; refine nA rfl rfl ?_; refine ALK.nil ?_; try show WP _ _ _ _ _ _)
  ((repeat apply WP.seq); apply WP.lreg; refine nM rfl rfl ?_; refine ALK.n (opn_call (merged_fn bs hb) (Evs.cons Ev.a Evs.nil)) rfl ?_; refine nM rfl rfl ?_; refine nX rfl rfl rfl ?_; refine nX rfl rfl rfl ?_; refine nX rfl rfl rfl ?_; refine nA rfl rfl ?_; refine nA rfl rfl ?_; refine nA rfl rfl ?_; refine ALK.nil ?_; try show WP _ _ _ _ _ _)
  ((repeat apply WP.seq); apply WP.lreg; refine nM rfl rfl ?_; refine nM rfl rfl ?_; refine nA rfl rfl ?_; refine nA rfl rfl ?_; refine ALK.nil ?_; try show WP _ _ _ _ _ _)
  ((repeat apply WP.seq); refine WP.ret ?_; first | exact RetOk.one Try.results25 ResV.a | exact RetOk.tup Try.results25 rfl ResVs.a)
set_option maxRecDepth 100000 in
theorem FromOf_fn (bs : Bats) (n : Int) (hb : BatsB bs) (hn : I64 n) : Fn (Cfg.mk Try.prog (ttAt ttl) ttl_ok.ok mixd) 26 [batsV bs, IV.int n] (IV.tup [IV.int (fromB bs n).1.site, IV.int (fromB bs n).1.epoch, IV.int (fromB bs n).1.n, IV.int (fromB bs n).2]) := by
  refine Fn.of_wp _ Try.func26 rfl (by kernel_rfl) Try.ntmps26 rfl ?_
  intro F hD hG
  ((repeat apply WP.seq); apply WP.lreg; refine nA rfl rfl ?_; refine nA rfl rfl ?_; refine nA rfl rfl ?_; refine nA rfl rfl ?_; refine ALK.nil ?_; try show WP _ _ _ _ _ _)
  ((repeat apply WP.seq); apply WP.lreg; refine nM rfl rfl ?_; refine ALK.n (opn_call (merged_fn bs hb) (Evs.cons Ev.a Evs.nil)) rfl ?_; refine nM rfl rfl ?_; refine nX rfl rfl rfl ?_; refine nX rfl rfl rfl ?_; refine nX rfl rfl rfl ?_; refine nA rfl rfl ?_; refine nA rfl rfl ?_; refine nA rfl rfl ?_; refine ALK.nil ?_; try show WP _ _ _ _ _ _)
  refine WP.len 9 rfl (fun hl1 => ?_)
  ((repeat apply WP.seq); apply WP.lreg; refine nM rfl rfl ?_; refine ALK.n OpN.cm rfl ?_; refine ALK.nil ?_; try show WP _ _ _ _ _ _)
  ((repeat apply WP.seq); refine WP.cond rfl (fun h => ?_) (fun h => ?_))
  · ((repeat apply WP.seq); apply WP.lreg; refine nM rfl rfl ?_; refine nA rfl rfl ?_; refine nA rfl rfl ?_; refine nA rfl rfl ?_; refine nA rfl rfl ?_; refine ALK.nil ?_; try show WP _ _ _ _ _ _)
    have hr : fromB bs n = (⟨0, 0, 0⟩, seqE bs) := by unfold fromB; rw [if_neg (by simpa using h)]
    rw [hr]
    ((repeat apply WP.seq); refine WP.ret ?_; first | exact RetOk.one Try.results26 ResV.a | exact RetOk.tup Try.results26 rfl ResVs.a)
  (refine WP.skip ?_; show WP _ _ _ _ _ _)
  have h0 : seqE bs = 0 := by simpa using h
  ((repeat apply WP.seq); apply WP.lreg; refine nM rfl rfl ?_; refine nM rfl rfl ?_; refine ALK.n OpN.ln rfl ?_; refine ALK.n OpN.ar rfl ?_; refine ALK.n (opn_call (within_fn n 0 (((whereB bs).length : Int) - 1)) (Evs.cons Ev.a (Evs.cons Ev.a (Evs.cons Ev.a Evs.nil)))) rfl ?_; refine ALK.n (opn_not (eB rfl)) rfl ?_; refine ALK.nil ?_; try show WP _ _ _ _ _ _)
  ((repeat apply WP.seq); refine WP.cond rfl (fun h => ?_) (fun h => ?_))
  · ((repeat apply WP.seq); apply WP.lreg; refine nA rfl rfl ?_; refine nA rfl rfl ?_; refine nA rfl rfl ?_; refine nA rfl rfl ?_; refine ALK.nil ?_; try show WP _ _ _ _ _ _)
    have hr : fromB bs n = (⟨0, 0, 0⟩, 5) := by
      unfold fromB
      rw [if_pos h0]
      by_cases hn : n < 0
      · rw [if_pos hn]
      · rw [if_neg hn, List.getElem?_eq_none (by simp at h; omega)]
    rw [hr]
    ((repeat apply WP.seq); refine WP.ret ?_; first | exact RetOk.one Try.results26 ResV.a | exact RetOk.tup Try.results26 rfl ResVs.a)
  (refine WP.skip ?_; show WP _ _ _ _ _ _)
  have hn0 : 0 ≤ n := by simp at h; omega
  have hn1 : n < (whereB bs).length := by simp at h; omega
  obtain ⟨w, hw⟩ := get_at (xs := whereB bs) (k := n.toNat) (by omega)
  have hr : fromB bs n = (w, 0) := by unfold fromB; rw [if_pos h0, if_neg (by omega), hw]
  ((repeat apply WP.seq); apply WP.ldraw; refine nM rfl rfl ?_; refine nM rfl rfl ?_; refine ALK.n OpN.ix rfl ?_; (first | refine ALK.n (opn_field (o := 0) rfl (eB rfl)) rfl ?_ | refine ALK.n (opn_fieldOff (o := 0) rfl (eB rfl)) rfl ?_); (first | refine ALK.n (opn_load rfl (eB rfl) rfl) rfl ?_ | refine ALK.r OpR.ld rfl ?_); refine nM rfl rfl ?_; refine nM rfl rfl ?_; refine ALK.n OpN.ix rfl ?_; (first | refine ALK.n (opn_field (o := 1) rfl (eB rfl)) rfl ?_ | refine ALK.n (opn_fieldOff (o := 1) rfl (eB rfl)) rfl ?_); (first | refine ALK.n (opn_load rfl (eB rfl) rfl) rfl ?_ | refine ALK.r OpR.ld rfl ?_); refine nM rfl rfl ?_; refine nM rfl rfl ?_; refine ALK.n OpN.ix rfl ?_; (first | refine ALK.n (opn_field (o := 2) rfl (eB rfl)) rfl ?_ | refine ALK.n (opn_fieldOff (o := 2) rfl (eB rfl)) rfl ?_); (first | refine ALK.n (opn_load rfl (eB rfl) rfl) rfl ?_ | refine ALK.r OpR.ld rfl ?_); refine nA rfl rfl ?_; refine nA rfl rfl ?_; refine nA rfl rfl ?_; refine nA rfl rfl ?_; refine ALK.nilD (by kernel_rfl) ?_; try show WP _ _ _ _ _ _)
  rw [hr]
  ((repeat apply WP.seq); refine WP.ret ?_; first | exact RetOk.one Try.results26 ResV.a | exact RetOk.tup Try.results26 rfl ResVs.a)

theorem bound8 {bs : Bats} (h : seqE bs = 0) : bs.length ≤ 3 ∧ (∀ b ∈ bs, ∀ l ∈ b, l.length ≤ 8) := by
  unfold seqE at h
  split at h
  · rename_i hc
    exact ⟨hc.1, fun b h1 l h2 => Nat.le_trans (lenB_mem h2) (Nat.le_trans (sumTo_mem h1) hc.2.2)⟩
  · cases h
theorem allB_len (bs : Bats) (h : bs.length ≤ 3) : (allB bs).length ≤ 18 := by
  have := epochTo_len bs 6
  unfold allB
  omega
theorem bat_at {bs : Bats} (x : BatAt bs) : ∃ b l, bs[x.1.1]? = some b ∧ b[x.1.2]? = some l ∧ batAt bs x.1 = l := by
  obtain ⟨⟨i, e⟩, h1, h2⟩ := x
  obtain ⟨b, hb⟩ := get_at h1
  simp only at hb h2
  rw [hb] at h2
  obtain ⟨l, hl⟩ := get_at (xs := b) (k := e) (by simpa using h2)
  refine ⟨b, l, hb, hl, ?_⟩
  show (bs[i]?.getD [])[e]?.getD [] = l
  rw [hb]
  show b[e]?.getD [] = l
  rw [hl]; rfl
theorem mergeL_snoc (bs : Bats) (ps : List (Nat × Nat)) (p : Nat × Nat) : mergeL bs (ps ++ [p]) = mergeL bs ps ++ batAt bs p := by unfold mergeL; rw [List.flatMap_append]; simp
theorem whereL_snoc (bs : Bats) (ps : List (Nat × Nat)) (p : Nat × Nat) : whereL bs (ps ++ [p]) = whereL bs ps ++ tagsOf p (batAt bs p).length := by unfold whereL; rw [List.flatMap_append]; simp

set_option maxRecDepth 100000 in
set_option maxHeartbeats 1000000 in
theorem Merge_fn (bs : Bats) (hb : BatsB bs) : Fn (Cfg.mk Try.prog (ttAt ttl) ttl_ok.ok mixd) 23 [batsV bs] (IV.tup [txsV (mergeB bs), IV.int (seqE bs)]) := by
  refine Fn.of_raw _ Try.func23 rfl (by kernel_rfl) Try.ntmps23 rfl ?_
  intro F hD hro hG
  refine Raw.seq hD hro hG ?_
  ((repeat apply WP.seq); apply WP.lreg; refine ALK.n (opn_box (eB rfl) Cs.a rfl) rfl ?_; refine nA rfl rfl ?_; refine nA rfl rfl ?_; refine ALK.nil ?_; try show WP _ _ _ _ _ _)
  refine Raw.seq hD hro hG ?_
  ((repeat apply WP.seq); apply WP.lreg; (first | refine ALK.n (opn_load rfl (eB rfl) rfl) rfl ?_ | refine ALK.r OpR.ld rfl ?_); refine ALK.n (opn_call (seq_check_fn bs hb) (Evs.cons Ev.a Evs.nil)) rfl ?_; refine nA rfl rfl ?_; refine ALK.nil ?_; try show WP _ _ _ _ _ _)
  ((repeat apply WP.seq); apply WP.lreg; refine nM rfl rfl ?_; refine ALK.n OpN.cm rfl ?_; refine ALK.nil ?_; try show WP _ _ _ _ _ _)
  ((repeat apply WP.seq); refine WP.cond rfl (fun h => ?_) (fun h => ?_))
  · ((repeat apply WP.seq); apply WP.lreg; refine nM rfl rfl ?_; refine nA rfl rfl ?_; refine nA rfl rfl ?_; refine ALK.nil ?_; try show WP _ _ _ _ _ _)
    have hne : ¬ seqE bs = 0 := by simpa using h
    have hr : mergeB bs = [] := by unfold mergeB; rw [if_neg hne]
    rw [hr]
    ((repeat apply WP.seq); refine WP.ret ?_; first | exact RetOk.one Try.results23 ResV.a | exact RetOk.tup Try.results23 rfl ResVs.a)
  refine WP.skip ?_
  have h0 : seqE bs = 0 := by simpa using h
  obtain ⟨h3, hl8⟩ := bound8 h0
  have hal := allB_len bs h3
  refine Raw.seq hD hro hG ?_
  ((repeat apply WP.seq); apply WP.lreg; refine ALK.a (opa_alloc rfl rfl) rfl ?_; refine ALK.nil ?_; try show WP _ _ _ _ _ _)
  refine Raw.seq2 hD hro hG ?_
  ((repeat apply WP.seq); apply WP.lreg; (first | refine ALK.n (opn_load rfl (eB rfl) rfl) rfl ?_ | refine ALK.r OpR.ld rfl ?_); refine ALK.n (opn_call (batches_fn bs) (Evs.cons Ev.a Evs.nil)) rfl ?_; refine ALK.nil ?_; try show WP _ _ _ _ _ _)
  refine Raw.range2 (α := BatAt bs) (ι := List (BatAt bs)) (σ := [(1, .im (IV.ptr [batsV bs])), (5, .off 0 0), (14, .im (IV.fn 84 [IV.ptr [batsV bs]]))])
    (fun i => ([(0, .blk 38 [.row 1 (mergeL bs (i.map (·.1))).length]), (1, .row 66 3 cT (mergeL bs (i.map (·.1))))], 2)) (fun pre i => i = pre) (fun _ => ([], 0)) (fun _ _ => False) [] [] rfl hD hro hG
    (Shift.trans (Shift.row0In 0 0 66 3 cT (fun _ => rfl) rfl rfl rfl) (Shift.sub [(0, 0), (1, 1)] rfl SubE.a SubH.a)) rfl (batches_iter bs (by omega)) rfl rfl rfl rfl rfl ?_ ?_ ?_
  · rintro F' hD' ts pre x i rfl hlen
    obtain ⟨b, l, hbx, hlx, hba⟩ := bat_at x
    have hll := hl8 b (List.mem_of_getElem? hbx) l (List.mem_of_getElem? hlx)
    have hml := mergeL_bound hl8 (i.map (·.1))
    rw [List.length_map] at hml
    have hi1 : bs[((x.1.1 : Nat) : Int).toNat]? = some b := hbx
    have hi2 : b[((x.1.2 : Nat) : Int).toNat]? = some l := hlx
    have hx1 := (List.getElem?_eq_some_iff.1 hbx).1
    have hx2 := (List.getElem?_eq_some_iff.1 hlx).1
    have hsn : mergeL bs ((i ++ [x]).map (·.1)) = mergeL bs (i.map (·.1)) ++ l := by rw [List.map_append]; show mergeL bs (_ ++ [x.1]) = _; rw [mergeL_snoc, hba]
    obtain ⟨xs, hxs⟩ : ∃ xs, xs = mergeL bs (i.map (·.1)) := ⟨_, rfl⟩
    show WP _ _ _ _ _ ⟨[(7, .im (IV.int x.1.2)), (6, .im (IV.int x.1.1)), (1, .is (ts.getD 1 undef) (.im (IV.ptr [batsV bs]))), (5, .is (ts.getD 5 undef) (.off 0 0)), (14, .is (ts.getD 14 undef) (.im (IV.fn 84 [IV.ptr [batsV bs]])))], [(0, .blk 38 [.row 1 (mergeL bs (i.map (·.1))).length]), (1, .row 66 3 cT (mergeL bs (i.map (·.1))))], 2⟩
    rw [← hxs] at hml hsn ⊢
    ((repeat apply WP.seq); apply WP.block)
    ((repeat apply WP.seq); apply WP.ldraw; refine ALK.r (opr_load rfl (Ev.is rfl) rfl rfl) rfl ?_; (first | refine ALK.n (opn_load rfl (Ev.is rfl) rfl) rfl ?_ | refine ALK.r (opr_load rfl (Ev.is rfl) rfl rfl) rfl ?_ | refine ALK.r (opr_loadRow rfl rfl (Ev.is rfl) rfl (by assumption) rfl) rfl ?_ | refine ALK.r (opr_loadK0 rfl (Ev.is rfl) rfl (by assumption) rfl) rfl ?_ | refine ALK.r (opr_loadK rfl (Ev.is rfl) rfl (by assumption) rfl) rfl ?_); refine nM rfl rfl ?_; refine ALK.n OpN.ix rfl ?_; (first | refine ALK.n (opn_load rfl (eB rfl) rfl) rfl ?_ | refine ALK.r OpR.ld rfl ?_); refine nM rfl rfl ?_; refine ALK.n OpN.ix rfl ?_; (first | refine ALK.n (opn_load rfl (eB rfl) rfl) rfl ?_ | refine ALK.r OpR.ld rfl ?_); refine ALK.e (ope_append (b := 72) l rfl rfl rfl rfl rfl (eB rfl) (eB rfl) rfl rfl (by omega) rfl) rfl rfl ?_; refine ALK.e (ope_store rfl (Ev.is rfl) (eB rfl) cs_row rfl rfl rfl) rfl rfl ?_; refine ALK.nilD (by kernel_rfl) ?_; try show WP _ _ _ _ _ _)
    refine ⟨i ++ [x], rfl, ?_⟩
    have hl1 : xs.length + l.length = (mergeL bs ((i ++ [x]).map (·.1))).length := by rw [hsn, List.length_append]
    show Shift _ _ _ ⟨[(1, .is (ts.getD 1 undef) (.im (IV.ptr [batsV bs]))), (5, .is (ts.getD 5 undef) (.off 0 0)), (14, .is (ts.getD 14 undef) (.im (IV.fn 84 [IV.ptr [batsV bs]])))], _, _⟩
    exact Shift.sub [(0, 0), (1, 2)] rfl SubE.a (SubH.cons rfl rfl (ObLe.blk SLes.a) (SubH.cons rfl rfl (ObLe.row hsn.symm) SubH.nil))
  · rintro F2 xs i hS rfl
    have hm : mergeB bs = mergeL bs (i.map (·.1)) := by unfold mergeB; rw [if_pos h0, hS]
    ((repeat apply WP.seq); apply WP.lreg; refine ALK.r (opr_load rfl (eB rfl) rfl rfl) rfl ?_; refine nA rfl rfl ?_; refine nA rfl rfl ?_; refine ALK.nil ?_; try show WP _ _ _ _ _ _)
    refine WP.shift (Shift.frzRow 2 rfl rfl) ?_
    refine WP.ret ⟨rfl, fun F3 => ?_⟩
    rw [hm, h0]
    exact RetOk.tup Try.results23 rfl ResVs.a
  · rintro pre i hS h
    exact h.elim

theorem pre_where {bs : Bats} {ps qs : List (Nat × Nat)} (h : ps <+: qs) : whereL bs ps <+: whereL bs qs := by
  obtain ⟨r, rfl⟩ := h
  exact ⟨whereL bs r, by unfold whereL; rw [List.flatMap_append]⟩
theorem pre_get {α : Type} {a b : List α} (h : a <+: b) {k : Nat} {x : α} (hx : a[k]? = some x) : b[k]? = some x := by
  obtain ⟨r, rfl⟩ := h
  rw [List.getElem?_append_left (List.getElem?_eq_some_iff.1 hx).1]; exact hx
def wLen (bs : Bats) (ps : List (BatAt bs)) : Nat := (whereL bs (ps.map (·.1))).length
theorem wLen_snoc (bs : Bats) (ps : List (BatAt bs)) (x : BatAt bs) : wLen bs (ps ++ [x]) = wLen bs ps + (batAt bs x.1).length := by
  unfold wLen
  rw [List.map_append]
  show (whereL bs (_ ++ [x.1])).length = _
  rw [whereL_snoc, List.length_append]
  simp [tagsOf]
abbrev exH (a b c e : Int) : List Ent := [(1, .blk 3 [.im (IV.int a)]), (2, .blk 3 [.im (IV.int b)]), (3, .blk 3 [.im (IV.int c)]), (4, .blk 25 [.im (IV.int e)])]
abbrev frH (a b c e : Int) (m : Int) : List Ent := [(0, .blk 3 [.im (IV.int m)]), (1, .blk 3 [.im (IV.int a)]), (2, .blk 3 [.im (IV.int b)]), (3, .blk 3 [.im (IV.int c)]), (4, .blk 25 [.im (IV.int e)])]
set_option maxRecDepth 100000 in
set_option maxHeartbeats 1000000 in
theorem From_fn (bs : Bats) (n : Int) (hb : BatsB bs) (hn : I64 n) : Fn (Cfg.mk Try.prog (ttAt ttl) ttl_ok.ok mixd) 24 [batsV bs, IV.int n] (IV.tup [IV.int (fromB bs n).1.site, IV.int (fromB bs n).1.epoch, IV.int (fromB bs n).1.n, IV.int (fromB bs n).2]) := by
  refine Fn.of_raw _ Try.func24 rfl (by kernel_rfl) Try.ntmps24 rfl ?_
  intro F hD hro hG
  refine Raw.seq hD hro hG ?_
  ((repeat apply WP.seq); apply WP.lreg; refine ALK.n (opn_box (eB rfl) Cs.a rfl) rfl ?_; refine ALK.a (opa_box (eB rfl) Cs.a) rfl ?_; refine ALK.a (opa_alloc rfl rfl) rfl ?_; refine ALK.a (opa_alloc rfl rfl) rfl ?_; refine ALK.a (opa_alloc rfl rfl) rfl ?_; refine ALK.a (opa_alloc rfl rfl) rfl ?_; refine ALK.nil ?_; try show WP _ _ _ _ _ _)
  refine Raw.seq hD hro hG ?_
  ((repeat apply WP.seq); apply WP.lreg; (first | refine ALK.n (opn_load rfl (eB rfl) rfl) rfl ?_ | refine ALK.r OpR.ld rfl ?_); refine ALK.n (opn_call (seq_check_fn bs hb) (Evs.cons Ev.a Evs.nil)) rfl ?_; refine nA rfl rfl ?_; refine ALK.nil ?_; try show WP _ _ _ _ _ _)
  ((repeat apply WP.seq); apply WP.lreg; refine nM rfl rfl ?_; refine ALK.n OpN.cm rfl ?_; refine ALK.nil ?_; try show WP _ _ _ _ _ _)
  ((repeat apply WP.seq); refine WP.cond rfl (fun h => ?_) (fun h => ?_))
  · ((repeat apply WP.seq); apply WP.lreg; refine nM rfl rfl ?_; (first | refine ALK.e (ope_store rfl (eB rfl) (eB rfl) Cs.a rfl rfl rfl) rfl rfl ?_ | refine ALK.e (ope_storeRow rfl rfl (eB rfl) (eB rfl) (oc_val rfl) rfl rfl (by assumption)) rfl rfl ?_); (first | refine ALK.e (ope_store rfl (eB rfl) (eB rfl) Cs.a rfl rfl rfl) rfl rfl ?_ | refine ALK.e (ope_storeRow rfl rfl (eB rfl) (eB rfl) (oc_val rfl) rfl rfl (by assumption)) rfl rfl ?_); (first | refine ALK.e (ope_store rfl (eB rfl) (eB rfl) Cs.a rfl rfl rfl) rfl rfl ?_ | refine ALK.e (ope_storeRow rfl rfl (eB rfl) (eB rfl) (oc_val rfl) rfl rfl (by assumption)) rfl rfl ?_); (first | refine ALK.e (ope_store rfl (eB rfl) (eB rfl) Cs.a rfl rfl rfl) rfl rfl ?_ | refine ALK.e (ope_storeRow rfl rfl (eB rfl) (eB rfl) (oc_val rfl) rfl rfl (by assumption)) rfl rfl ?_); refine ALK.nil ?_; try show WP _ _ _ _ _ _)
    have hr : fromB bs n = (⟨0, 0, 0⟩, seqE bs) := by unfold fromB; rw [if_neg (by simpa using h)]
    rw [hr]
    ((repeat apply WP.seq); refine WP.ret ?_; first | exact RetOk.one Try.results24 ResV.a | exact RetOk.tup Try.results24 rfl ResVs.a)
  refine WP.skip ?_
  have h0 : seqE bs = 0 := by simpa using h
  obtain ⟨h3, hl8⟩ := bound8 h0
  have hal := allB_len bs h3
  have hW : whereB bs = whereL bs (allB bs) := by unfold whereB; rw [if_pos h0]
  refine Raw.seq hD hro hG ?_
  ((repeat apply WP.seq); apply WP.lreg; (first | refine ALK.n (opn_load rfl (eB rfl) rfl) rfl ?_ | refine ALK.r OpR.ld rfl ?_); refine ALK.n OpN.cm rfl ?_; refine ALK.nil ?_; try show WP _ _ _ _ _ _)
  ((repeat apply WP.seq); refine WP.cond rfl (fun h => ?_) (fun h => ?_))
  · ((repeat apply WP.seq); apply WP.lreg; (first | refine ALK.e (ope_store rfl (eB rfl) (eB rfl) Cs.a rfl rfl rfl) rfl rfl ?_ | refine ALK.e (ope_storeRow rfl rfl (eB rfl) (eB rfl) (oc_val rfl) rfl rfl (by assumption)) rfl rfl ?_); (first | refine ALK.e (ope_store rfl (eB rfl) (eB rfl) Cs.a rfl rfl rfl) rfl rfl ?_ | refine ALK.e (ope_storeRow rfl rfl (eB rfl) (eB rfl) (oc_val rfl) rfl rfl (by assumption)) rfl rfl ?_); (first | refine ALK.e (ope_store rfl (eB rfl) (eB rfl) Cs.a rfl rfl rfl) rfl rfl ?_ | refine ALK.e (ope_storeRow rfl rfl (eB rfl) (eB rfl) (oc_val rfl) rfl rfl (by assumption)) rfl rfl ?_); (first | refine ALK.e (ope_store rfl (eB rfl) (eB rfl) Cs.a rfl rfl rfl) rfl rfl ?_ | refine ALK.e (ope_storeRow rfl rfl (eB rfl) (eB rfl) (oc_val rfl) rfl rfl (by assumption)) rfl rfl ?_); refine ALK.nil ?_; try show WP _ _ _ _ _ _)
    have hr : fromB bs n = (⟨0, 0, 0⟩, 5) := by unfold fromB; rw [if_pos h0, if_pos (by simpa using h)]
    rw [hr]
    ((repeat apply WP.seq); refine WP.ret ?_; first | exact RetOk.one Try.results24 ResV.a | exact RetOk.tup Try.results24 rfl ResVs.a)
  refine WP.skip ?_
  have hn0 : 0 ≤ n := by simp at h; omega
  refine Raw.seq2 hD hro hG ?_
  ((repeat apply WP.seq); apply WP.lreg; (first | refine ALK.n (opn_load rfl (eB rfl) rfl) rfl ?_ | refine ALK.r OpR.ld rfl ?_); refine ALK.n (opn_call (batches_fn bs) (Evs.cons Ev.a Evs.nil)) rfl ?_; refine ALK.nil ?_; try show WP _ _ _ _ _ _)
  refine Raw.range2 (α := BatAt bs) (ι := TagT × Int) (σ := [(2, .im (IV.ptr [batsV bs])), (3, .off 0 0), (4, .off 1 0), (5, .off 2 0), (6, .off 3 0), (7, .off 4 0), (20, .im (IV.fn 84 [IV.ptr [batsV bs]]))])
    (fun i => (frH 0 0 0 0 i.2, 5)) (fun pre i => i.2 = n - wLen bs pre ∧ 0 ≤ i.2) (fun i => (exH i.1.site i.1.epoch i.1.n 0, 5)) (fun pre i => ∃ pre' x, pre = pre' ++ [x] ∧ 0 ≤ n - (wLen bs pre' : Int) ∧ n - (wLen bs pre' : Int) < ((batAt bs x.1).length : Int) ∧ i.1 = ⟨x.1.1, x.1.2, n - (wLen bs pre' : Int)⟩) [(4, .off 1 0), (5, .off 2 0), (6, .off 3 0), (7, .off 4 0)] (⟨0, 0, 0⟩, n) ⟨by simp [wLen, whereL], hn0⟩ hD hro hG
    (Shift.sub [(0, 0), (1, 1), (2, 2), (3, 3), (4, 4)] rfl SubE.a SubH.a) rfl (batches_iter bs (by omega)) rfl rfl rfl rfl rfl ?_ ?_ ?_
  · rintro F' hD' ts pre x ⟨w, m⟩ ⟨hm, hm0⟩ hlen
    simp only at hm hm0
    obtain ⟨b, l, hbx, hlx, hba⟩ := bat_at x
    have hll := hl8 b (List.mem_of_getElem? hbx) l (List.mem_of_getElem? hlx)
    have hi1 : bs[((x.1.1 : Nat) : Int).toNat]? = some b := hbx
    have hi2 : b[((x.1.2 : Nat) : Int).toNat]? = some l := hlx
    have hx1 := (List.getElem?_eq_some_iff.1 hbx).1
    have hx2 := (List.getElem?_eq_some_iff.1 hlx).1
    have hmn : m ≤ 9223372036854775807 := by unfold I64 at hn; omega
    show WP _ _ _ _ _ ⟨[(10, .im (IV.int x.1.2)), (9, .im (IV.int x.1.1)), (2, .is (ts.getD 2 undef) (.im (IV.ptr [batsV bs]))), (3, .is (ts.getD 3 undef) (.off 0 0)), (4, .is (ts.getD 4 undef) (.off 1 0)), (5, .is (ts.getD 5 undef) (.off 2 0)), (6, .is (ts.getD 6 undef) (.off 3 0)), (7, .is (ts.getD 7 undef) (.off 4 0)), (20, .is (ts.getD 20 undef) (.im (IV.fn 84 [IV.ptr [batsV bs]])))], frH 0 0 0 0 m, 5⟩
    ((repeat apply WP.seq); apply WP.block)
    ((repeat apply WP.seq); apply WP.lreg; (first | refine ALK.n (opn_load rfl (Ev.is rfl) rfl) rfl ?_ | refine ALK.r (opr_load rfl (Ev.is rfl) rfl rfl) rfl ?_ | refine ALK.r (opr_loadRow rfl rfl (Ev.is rfl) rfl (by assumption) rfl) rfl ?_ | refine ALK.r (opr_loadK0 rfl (Ev.is rfl) rfl (by assumption) rfl) rfl ?_ | refine ALK.r (opr_loadK rfl (Ev.is rfl) rfl (by assumption) rfl) rfl ?_); refine nM rfl rfl ?_; refine ALK.n OpN.ix rfl ?_; (first | refine ALK.n (opn_load rfl (eB rfl) rfl) rfl ?_ | refine ALK.r OpR.ld rfl ?_); refine nM rfl rfl ?_; refine ALK.n OpN.ix rfl ?_; (first | refine ALK.n (opn_load rfl (eB rfl) rfl) rfl ?_ | refine ALK.r OpR.ld rfl ?_); refine ALK.n OpN.ln rfl ?_; refine nA rfl rfl ?_; refine ALK.nil ?_; try show WP _ _ _ _ _ _)
    ((repeat apply WP.seq); apply WP.lreg; (first | refine ALK.n (opn_load rfl (Ev.is rfl) rfl) rfl ?_ | refine ALK.r (opr_load rfl (Ev.is rfl) rfl rfl) rfl ?_ | refine ALK.r (opr_loadRow rfl rfl (Ev.is rfl) rfl (by assumption) rfl) rfl ?_ | refine ALK.r (opr_loadK0 rfl (Ev.is rfl) rfl (by assumption) rfl) rfl ?_ | refine ALK.r (opr_loadK rfl (Ev.is rfl) rfl (by assumption) rfl) rfl ?_); refine nM rfl rfl ?_; refine ALK.n OpN.cm rfl ?_; refine ALK.nil ?_; try show WP _ _ _ _ _ _)
    ((repeat apply WP.seq); refine WP.cond rfl (fun h => ?_) (fun h => ?_))
    · refine WP.shift (y := ⟨[(9, .im (IV.int x.1.1)), (10, .im (IV.int x.1.2)), (3, .off 0 0), (4, .is (ts.getD 4 undef) (.off 1 0)), (5, .is (ts.getD 5 undef) (.off 2 0)), (6, .is (ts.getD 6 undef) (.off 3 0)), (7, .is (ts.getD 7 undef) (.off 4 0))], frH 0 0 0 0 m, 5⟩) (Shift.sub [(0, 0), (1, 1), (2, 2), (3, 3), (4, 4)] rfl (SubE.cons rfl SLe.a (SubE.cons rfl SLe.a (SubE.cons rfl (SLe.of (SLe.off rfl rfl)) SubE.a))) SubH.a) ?_
      refine WP.shift (Shift.frzBlk 3 rfl rfl rfl) ?_
      ((repeat apply WP.seq); apply WP.ldraw; refine nM rfl rfl ?_; refine nM rfl rfl ?_; refine ALK.n (opn_load rfl (eB rfl) rfl) rfl ?_; (first | refine ALK.e (ope_store rfl (Ev.is rfl) (eB rfl) Cs.a rfl rfl rfl) rfl rfl ?_ | refine ALK.e (ope_storeRow rfl rfl (Ev.is rfl) (eB rfl) (oc_val rfl) rfl rfl (by assumption)) rfl rfl ?_); (first | refine ALK.e (ope_store rfl (Ev.is rfl) (eB rfl) Cs.a rfl rfl rfl) rfl rfl ?_ | refine ALK.e (ope_storeRow rfl rfl (Ev.is rfl) (eB rfl) (oc_val rfl) rfl rfl (by assumption)) rfl rfl ?_); (first | refine ALK.e (ope_store rfl (Ev.is rfl) (eB rfl) Cs.a rfl rfl rfl) rfl rfl ?_ | refine ALK.e (ope_storeRow rfl rfl (Ev.is rfl) (eB rfl) (oc_val rfl) rfl rfl (by assumption)) rfl rfl ?_); (first | refine ALK.e (ope_store rfl (Ev.is rfl) (eB rfl) Cs.a rfl rfl rfl) rfl rfl ?_ | refine ALK.e (ope_storeRow rfl rfl (Ev.is rfl) (eB rfl) (oc_val rfl) rfl rfl (by assumption)) rfl rfl ?_); refine ALK.nilD (by kernel_rfl) ?_; try show WP _ _ _ _ _ _)
      refine WP.ret ?_
      refine ⟨(⟨x.1.1, x.1.2, m⟩, m), ⟨pre, x, rfl, by omega, by rw [hba]; simp at h; omega, by rw [← hm]⟩, ?_⟩
      show Shift _ _ _ ⟨[(4, .is (ts.getD 4 undef) (.off 1 0)), (5, .is (ts.getD 5 undef) (.off 2 0)), (6, .is (ts.getD 6 undef) (.off 3 0)), (7, .is (ts.getD 7 undef) (.off 4 0))], _, _⟩
      exact Shift.sub [(1, 1), (2, 2), (3, 3), (4, 4)] rfl SubE.a SubH.a
    (refine WP.skip ?_; show WP _ _ _ _ _ _)
    ((repeat apply WP.seq); apply WP.lreg; (first | refine ALK.n (opn_load rfl (Ev.is rfl) rfl) rfl ?_ | refine ALK.r (opr_load rfl (Ev.is rfl) rfl rfl) rfl ?_ | refine ALK.r (opr_loadRow rfl rfl (Ev.is rfl) rfl (by assumption) rfl) rfl ?_ | refine ALK.r (opr_loadK0 rfl (Ev.is rfl) rfl (by assumption) rfl) rfl ?_ | refine ALK.r (opr_loadK rfl (Ev.is rfl) rfl (by assumption) rfl) rfl ?_); refine nM rfl rfl ?_; refine ALK.n OpN.ar rfl ?_; (first | refine ALK.e (ope_store rfl (Ev.is rfl) (eB rfl) Cs.a rfl rfl rfl) rfl rfl ?_ | refine ALK.e (ope_storeRow rfl rfl (Ev.is rfl) (eB rfl) (oc_val rfl) rfl rfl (by assumption)) rfl rfl ?_); refine ALK.nil ?_; try show WP _ _ _ _ _ _)
    refine ⟨(w, m - l.length), ⟨by simp only; rw [wLen_snoc, hba]; push_cast; omega, by simp at h ⊢; omega⟩, ?_⟩
    show Shift _ _ _ ⟨[(2, .is (ts.getD 2 undef) (.im (IV.ptr [batsV bs]))), (3, .is (ts.getD 3 undef) (.off 0 0)), (4, .is (ts.getD 4 undef) (.off 1 0)), (5, .is (ts.getD 5 undef) (.off 2 0)), (6, .is (ts.getD 6 undef) (.off 3 0)), (7, .is (ts.getD 7 undef) (.off 4 0)), (20, .is (ts.getD 20 undef) (.im (IV.fn 84 [IV.ptr [batsV bs]])))], _, _⟩
    exact Shift.sub [(0, 0), (1, 1), (2, 2), (3, 3), (4, 4)] rfl SubE.a SubH.a
  · rintro F2 xs ⟨w, m⟩ hS ⟨hm, hm0⟩
    simp only at hm hm0
    have hr : fromB bs n = (⟨0, 0, 0⟩, 5) := by
      unfold fromB
      rw [if_pos h0, if_neg (by omega), hW, List.getElem?_eq_none]
      have : wLen bs xs = (whereL bs (allB bs)).length := by unfold wLen; rw [hS]
      omega
    ((repeat apply WP.seq); apply WP.lreg; (first | refine ALK.e (ope_store rfl (eB rfl) (eB rfl) Cs.a rfl rfl rfl) rfl rfl ?_ | refine ALK.e (ope_storeRow rfl rfl (eB rfl) (eB rfl) (oc_val rfl) rfl rfl (by assumption)) rfl rfl ?_); (first | refine ALK.e (ope_store rfl (eB rfl) (eB rfl) Cs.a rfl rfl rfl) rfl rfl ?_ | refine ALK.e (ope_storeRow rfl rfl (eB rfl) (eB rfl) (oc_val rfl) rfl rfl (by assumption)) rfl rfl ?_); (first | refine ALK.e (ope_store rfl (eB rfl) (eB rfl) Cs.a rfl rfl rfl) rfl rfl ?_ | refine ALK.e (ope_storeRow rfl rfl (eB rfl) (eB rfl) (oc_val rfl) rfl rfl (by assumption)) rfl rfl ?_); (first | refine ALK.e (ope_store rfl (eB rfl) (eB rfl) Cs.a rfl rfl rfl) rfl rfl ?_ | refine ALK.e (ope_storeRow rfl rfl (eB rfl) (eB rfl) (oc_val rfl) rfl rfl (by assumption)) rfl rfl ?_); refine ALK.nil ?_; try show WP _ _ _ _ _ _)
    refine WP.ret ⟨rfl, fun F3 => ?_⟩
    rw [hr]
    exact RetOk.tup Try.results24 rfl ResVs.a
  · rintro pre ⟨w, m⟩ hS ⟨pre', x, rfl, k1, k2, k3⟩ F3
    simp only at k3
    have hr : fromB bs n = (w, 0) := by
      unfold fromB
      rw [if_pos h0, if_neg (by omega), hW]
      have h5 : (whereL bs ((pre' ++ [x]).map (·.1)))[n.toNat]? = some w := by
        rw [List.map_append]
        show (whereL bs (pre'.map (·.1) ++ [x.1]))[n.toNat]? = some w
        rw [whereL_snoc]
        have h6 : (whereL bs (pre'.map (·.1))).length = wLen bs pre' := rfl
        rw [List.getElem?_append_right (by omega), h6]
        unfold tagsOf
        rw [List.getElem?_map, List.getElem?_range (by omega), k3]
        simp only [Option.map_some, Option.some.injEq, TagT.mk.injEq, true_and]
        omega
      rw [pre_get (pre_where hS) h5]
    rw [hr]
    exact RetOk.tup Try.results24 rfl ResVs.a
end Go.Proofs.Ytjgmbgfcffnanaa
