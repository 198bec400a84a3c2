/- Package store and its reference. -/
import Derived.Test.YtjgmbgfcffnanacLit
import Derived.Test.YtjgmbgfcffnanacLB
namespace Go.Proofs.Ytjgmbgfcffnanac
open Go.RowKit

def rdF (st : List Int) (k : Int) : Int := st.getD k.toNat 0
def readsOf (st : List Int) (t : Txn) : List Int := t.reads.map (rdF st)
def putZ (st : List Int) (l : List (SetT × Int)) : List Int := l.foldl (fun s p => s.set p.1.key.toNat p.2) st
def applyS (st : List Int) (t : Txn) : List Int := putZ st (t.sets.zip (runSets t (readsOf st t)))
def applyR (st : List Int) (t : Txn) : Res := ⟨runDone t (readsOf st t), readsOf st t⟩
theorem putZ_length (st : List Int) (l : List (SetT × Int)) : (putZ st l).length = st.length := by
  induction l generalizing st with
  | nil => rfl
  | cons p l ih => show (putZ (st.set p.1.key.toNat p.2) l).length = _; rw [ih, List.length_set]
theorem take_snoc {α : Type} {l : List α} {k : Nat} {x : α} (h : l[k]? = some x) : l.take (k + 1) = l.take k ++ [x] := by
  rw [List.take_add_one, h]; rfl
theorem putZ_push {st : List Int} {l : List (SetT × Int)} {k : Nat} {p : SetT × Int} (h : l[k]? = some p) : putZ st (l.take (k + 1)) = (putZ st (l.take k)).set p.1.key.toNat p.2 := by
  rw [take_snoc h]; unfold putZ; rw [List.foldl_append]; rfl
theorem rdF_at {st : List Int} {q : Int} (h0 : 0 ≤ q) (h1 : q < st.length) : st[q.toNat]? = some (rdF st q) := by
  unfold rdF
  rw [List.getD_eq_getElem?_getD, List.getElem?_eq_getElem (by omega)]; rfl
theorem runSets_len {t : Txn} {xs : List Int} : (runSets t xs).length ≤ t.sets.length := by
  unfold runSets; split <;> simp

set_option maxRecDepth 100000 in
theorem store_Do_fn (st : List Int) (t : Txn) (hst : st.length = 8) (hb : TxnB t) (hok : checkTxn t = 0) :
    FnE (Cfg.mk Try.prog (ttAt ttl) ttl_ok.ok mixd) 78 1 [.row 0 8, .im (txnV t)] [(0, .row 3 1 cI st)] (.im (resV (applyR st t))) [(0, .row 3 1 cI (applyS st t))] 1 [0] := by
  obtain ⟨hk1, hk2⟩ := right_keys hok
  have hsz := (right_parts hok).1
  obtain ⟨hz1, hz2, hz3, hz4⟩ := hsz
  refine FnE.of_wp _ [(0, 0)] Try.func78 rfl (by kernel_rfl) Try.ntmps78 rfl rfl rfl rfl rfl rfl rfl rfl rfl ?_
  intro F vs hD hvs
  obtain ⟨v0, v1, rfl⟩ := len2 hvs
  show WP _ _ _ _ _ ⟨[(0, .is v0 (.row 0 8)), (1, .im (txnV t))], [(0, .row 3 1 cI st)], 1⟩
  ((repeat apply WP.seq); apply WP.lreg; refine ALK.n (opn_box (eB rfl) Cs.a rfl) rfl ?_; refine ALK.a (opa_alloc rfl rfl) rfl ?_; refine ALK.nil ?_; try show WP _ _ _ _ _ _)
  ((repeat apply WP.seq); apply WP.lreg; refine nA rfl rfl ?_; refine ALK.nil ?_; try show WP _ _ _ _ _ _)
  refine WP.shift (Shift.row0 5 3 1 cI (fun _ => rfl) rfl) ?_
  ((repeat apply WP.seq); apply WP.lreg; (first | refine ALK.n (opn_field (o := 0) rfl (eB rfl)) rfl ?_ | refine ALK.n (opn_fieldOff (o := 0) rfl (eB rfl)) rfl ?_); (first | refine ALK.n (opn_load rfl (eB rfl) rfl) rfl ?_ | refine ALK.r OpR.ld rfl ?_); refine ALK.n OpN.ln rfl ?_; refine nM rfl rfl ?_; refine ALK.nil ?_; try show WP _ _ _ _ _ _)
  ((repeat apply WP.seq); apply WP.block)
  refine WP.loop (fun k : Nat => ⟨[(15, .im (IV.int k)), (13, .im (intsV t.reads)), (14, .im (IV.int t.reads.length)), (5, .row 1 k), (0, .is v0 (.row 0 8)), (3, .im (IV.ptr (cT t))), (4, .off 2 0)], [(0, .row 3 1 cI st), (1, .row 3 1 cI ((t.reads.take k).map (rdF st))), (2, .blk 68 [.im (IV.bool false), .im (IV.val (.slice none 0 0))])], 3⟩) (fun k => k ≤ t.reads.length) (fun k => t.reads.length - k) 0 (Nat.zero_le _) (Shift.sub [(0, 0), (1, 2), (2, 1)] rfl SubE.a (SubH.cons rfl rfl (ObLe.row rfl) (SubH.cons rfl rfl (ObLe.row (by simp)) (SubH.cons rfl rfl (ObLe.blk SLes.a) SubH.nil)))) ?_
  rintro k hk
  ((repeat apply WP.seq); apply WP.lreg; refine ALK.n OpN.cm rfl ?_; refine ALK.nil ?_; try show WP _ _ _ _ _ _)
  ((repeat apply WP.seq); refine WP.cond rfl (fun h => ?_) (fun h => ?_))
  · (refine WP.skip ?_; show WP _ _ _ _ _ _)
    have hlt : k < t.reads.length := by simpa using h
    obtain ⟨q, hq⟩ := get_at hlt
    obtain ⟨hq0, hq8⟩ := hk1 q (List.mem_of_getElem? hq)
    have hy := rdF_at (st := st) hq0 (by omega)
    ((repeat apply WP.seq); apply WP.block)
    ((repeat apply WP.seq); apply WP.lreg; refine ALK.n OpN.ix rfl ?_; (first | refine ALK.n (opn_load rfl (eB rfl) rfl) rfl ?_ | refine ALK.r OpR.ld rfl ?_); refine nA rfl rfl ?_; refine ALK.nil ?_; try show WP _ _ _ _ _ _)
    ((repeat apply WP.seq); apply WP.lreg; refine nM rfl rfl ?_; refine ALK.n (opn_move (Ev.is rfl)) rfl ?_; refine nM rfl rfl ?_; refine ALK.n OpN.ix rfl ?_; (first | refine ALK.n (opn_load rfl (eB rfl) rfl) rfl ?_ | refine ALK.r OpR.ld rfl ?_); refine ALK.n (opn_slit rfl rfl rfl rfl rfl rfl (Pc rfl (eB rfl) Cs.a rfl rfl Parts.nil) rfl) rfl ?_; refine ALK.e (ope_append (b := 8) [rdF st q] rfl rfl rfl rfl rfl (eB rfl) (eB rfl) rfl rfl (by simp; omega) rfl) rfl rfl ?_; refine nA rfl rfl ?_; refine ALK.nil ?_; try show WP _ _ _ _ _ _)
    ((repeat apply WP.seq); apply WP.lreg; refine ALK.n OpN.ar rfl ?_; refine nM rfl rfl ?_; refine ALK.nil ?_; try show WP _ _ _ _ _ _)
    show ∃ _, _ ∧ _ ∧ _
    have hn : (t.reads.take (k + 1)).map (rdF st) = (t.reads.take k).map (rdF st) ++ [rdF st q] := by rw [take_snoc hq, List.map_append]; rfl
    have hl : ((t.reads.take k).map (rdF st)).length + [rdF st q].length = k + 1 := by simp; omega
    exact ⟨k + 1, by omega, by omega, Shift.sub [(0, 0), (1, 3), (2, 2)] rfl (by repeat (first | exact SubE.nil | refine SubE.cons rfl (by first | exact SLe.row rfl hl | exact SLe.is (SLe.row rfl rfl) | exact SLe.a) ?_)) (SubH.cons rfl rfl (ObLe.row rfl) (SubH.cons rfl rfl (ObLe.row hn.symm) (SubH.cons rfl rfl (ObLe.blk SLes.a) SubH.nil)))⟩
  · ((repeat apply WP.seq); refine WP.exit ?_; show WP _ _ _ _ _ _)
    have hk2 : k = t.reads.length := by simp at h; omega
    subst hk2
    rw [List.take_length]
    refine WP.shift (Shift.frzRow 5 rfl rfl) ?_
    ((repeat apply WP.seq); apply WP.lreg; (first | refine ALK.n (opn_load rfl (eB rfl) rfl) rfl ?_ | refine ALK.r OpR.ld rfl ?_); refine nM rfl rfl ?_; refine ALK.n (opn_call (txn_Do_fn t (readsOf st t) hb hok (by simp [readsOf])) (Evs.cons Ev.a (Evs.cons Ev.a Evs.nil))) rfl ?_; refine nM rfl rfl ?_; refine nX rfl rfl rfl ?_; refine nX rfl rfl rfl ?_; refine ALK.a (opa_alloc rfl rfl) rfl ?_; (first | refine ALK.e (ope_store rfl (eB rfl) (eB rfl) Cs.a rfl rfl rfl) rfl rfl ?_ | refine ALK.e (ope_storeRow rfl rfl (eB rfl) (eB rfl) (oc_val rfl) rfl rfl (by assumption)) rfl rfl ?_); refine nA rfl rfl ?_; refine ALK.nil ?_; try show WP _ _ _ _ _ _)
    refine WP.shift (Shift.frzBlk 8 rfl rfl rfl) ?_
    have hle := runSets_len (t := t) (xs := readsOf st t)
    obtain ⟨l, hl⟩ : ∃ l, l = runSets t (readsOf st t) := ⟨_, rfl⟩
    rw [← hl] at hle ⊢
    ((repeat apply WP.seq); apply WP.lreg; refine nM rfl rfl ?_; refine ALK.n OpN.ln rfl ?_; refine nM rfl rfl ?_; refine ALK.nil ?_; try show WP _ _ _ _ _ _)
    ((repeat apply WP.seq); apply WP.block)
    refine WP.loop (fun j : Nat => ⟨[(35, .im (IV.int j)), (33, .im (intsV l)), (34, .im (IV.int l.length)), (0, .is v0 (.row 0 8)), (3, .im (IV.ptr (cT t))), (4, .off 2 0), (8, .im (IV.ptr (cR (applyR st t))))], [(0, .row 3 1 cI (putZ st ((t.sets.zip l).take j))), (2, .blk 68 [.im (IV.bool false), .im (IV.val (.slice none 0 0))])], 3⟩) (fun j => j ≤ l.length) (fun j => l.length - j) 0 (Nat.zero_le _) (Shift.sub [(0, 0), (2, 2)] rfl SubE.a (SubH.cons rfl rfl (ObLe.row rfl) (SubH.cons rfl rfl (ObLe.blk SLes.a) SubH.nil))) ?_
    rintro j hj
    ((repeat apply WP.seq); apply WP.lreg; refine ALK.n OpN.cm rfl ?_; refine ALK.nil ?_; try show WP _ _ _ _ _ _)
    ((repeat apply WP.seq); refine WP.cond rfl (fun h => ?_) (fun h => ?_))
    · (refine WP.skip ?_; show WP _ _ _ _ _ _)
      have hjl : j < l.length := by simpa using h
      obtain ⟨n, hn⟩ := get_at hjl
      obtain ⟨s, hs⟩ := get_at (xs := t.sets) (k := j) (by omega)
      obtain ⟨hs0, hs8⟩ := hk2 s.key (List.mem_map.2 ⟨s, List.mem_of_getElem? hs, rfl⟩)
      have hpl : s.key.toNat < (putZ st ((t.sets.zip l).take j)).length := by rw [putZ_length]; omega
      have hz : (t.sets.zip l)[j]? = some (s, n) := by rw [List.getElem?_zip_eq_some]; exact ⟨hs, hn⟩
      ((repeat apply WP.seq); apply WP.block)
      ((repeat apply WP.seq); apply WP.lreg; refine nM rfl rfl ?_; refine ALK.n OpN.ix rfl ?_; (first | refine ALK.n (opn_load rfl (eB rfl) rfl) rfl ?_ | refine ALK.r OpR.ld rfl ?_); refine nA rfl rfl ?_; refine nA rfl rfl ?_; refine ALK.nil ?_; try show WP _ _ _ _ _ _)
      ((repeat apply WP.seq); apply WP.lreg; refine ALK.n (opn_move (Ev.is rfl)) rfl ?_; (first | refine ALK.n (opn_field (o := 2) rfl (eB rfl)) rfl ?_ | refine ALK.n (opn_fieldOff (o := 2) rfl (eB rfl)) rfl ?_); (first | refine ALK.n (opn_load rfl (eB rfl) rfl) rfl ?_ | refine ALK.r OpR.ld rfl ?_); refine nM rfl rfl ?_; refine ALK.n OpN.ix rfl ?_; (first | refine ALK.n (opn_field (o := 0) rfl (eB rfl)) rfl ?_ | refine ALK.n (opn_fieldOff (o := 0) rfl (eB rfl)) rfl ?_); (first | refine ALK.n (opn_load rfl (eB rfl) rfl) rfl ?_ | refine ALK.r OpR.ld rfl ?_); refine nM rfl rfl ?_; refine ALK.n OpN.ix rfl ?_; (first | refine ALK.e (ope_store rfl (eB rfl) (eB rfl) Cs.a rfl rfl rfl) rfl rfl ?_ | refine ALK.e (ope_storeRow rfl rfl (eB rfl) (eB rfl) (oc_val rfl) rfl rfl (by assumption)) rfl rfl ?_); refine ALK.nil ?_; try show WP _ _ _ _ _ _)
      ((repeat apply WP.seq); apply WP.lreg; refine ALK.n OpN.ar rfl ?_; refine nM rfl rfl ?_; refine ALK.nil ?_; try show WP _ _ _ _ _ _)
      show ∃ _, _ ∧ _ ∧ _
      exact ⟨j + 1, by omega, by omega, Shift.sub [(0, 0), (2, 2)] rfl SubE.a (SubH.cons rfl rfl (ObLe.row (putZ_push hz).symm) (SubH.cons rfl rfl (ObLe.blk SLes.a) SubH.nil))⟩
    · ((repeat apply WP.seq); refine WP.exit ?_; show WP _ _ _ _ _ _)
      have hjl : (t.sets.zip l).length ≤ j := by simp at h; rw [List.length_zip]; omega
      rw [List.take_of_length_le hjl]
      ((repeat apply WP.seq); apply WP.lreg; (first | refine ALK.n (opn_load rfl (eB rfl) rfl) rfl ?_ | refine ALK.r OpR.ld rfl ?_); (first | refine ALK.e (ope_store rfl (eB rfl) (eB rfl) Cs.a rfl rfl rfl) rfl rfl ?_ | refine ALK.e (ope_storeRow rfl rfl (eB rfl) (eB rfl) (oc_val rfl) rfl rfl (by assumption)) rfl rfl ?_); refine ALK.nil ?_; try show WP _ _ _ _ _ _)
      rw [hl]
      ((repeat apply WP.seq); refine WP.ret ?_; first | exact RetOkE.none Try.results78 HSb.a Kept.a | exact RetOkE.one Try.results78 ResV.a HSb.a Kept.a | exact RetOkE.sv Try.results78 rfl HSb.a Kept.a | exact RetOkE.tup Try.results78 rfl ResVs.a HSb.a Kept.a)
end Go.Proofs.Ytjgmbgfcffnanac
