/- The reference's BeginOf, done and DoOf. -/
import Derived.Test.YtjgmbgfcffnanacSr3
namespace Go.Proofs.Ytjgmbgfcffnanac
open Go.RowKit

theorem ld_own {s : StT} (v : ∀ l ∈ s.vals, l.length ≤ 1000) : True := trivial
set_option maxRecDepth 100000 in
set_option maxHeartbeats 2000000 in
theorem R_done_fn (p : Plan) (s : StT) (kind : Int) (n k : Nat) (v : Valid p s) (hB : TxsB p.txns) (hs : Step p s kind n k) : Fn (Cfg.mk Try.prog (ttAt ttl) ttl_ok.ok mixd) 72 [planV p, stV s, IV.agg [IV.int kind, IV.int (n : Int), IV.int (k : Int)]] (stV (turnS p s kind n k)) := by
  obtain ⟨hm, hm1, hm4, hn8, hall⟩ := plan_m v.plan
  obtain ⟨ht, hok⟩ := hall n hs.hn
  have hbt : TxnB (txN p n) := hB _ (List.mem_of_getElem? ht)
  obtain ⟨hk1, hk2⟩ := right_keys hok
  obtain ⟨hz1, hz2, hz3, hz4⟩ := (right_parts hok).1
  have hkm := hs.hk
  have hnn := hs.hn
  have hnT : nT p = p.txns.length := rfl
  have l1 := v.rdl
  have l2 := v.wrl
  have l3 := v.vall
  have l4 := v.rdr n hnn
  have l5 := v.wrr n hnn
  have l6 := v.valr n hnn
  have l7 := v.store
  have e1 : s.rd[n]? = some (s.rd.getD n []) := getD_of_lt [] (by omega)
  have e2 : s.wr[n]? = some (s.wr.getD n []) := getD_of_lt [] (by omega)
  have e3 : s.vals[n]? = some (s.vals.getD n []) := getD_of_lt [] (by omega)
  have b5 : ∀ l ∈ s.rd, l.length ≤ 1000 := len_leB fun i hi => by rw [v.rdr i (by rw [v.rdl] at hi; exact hi)]; omega
  have b6 : ∀ l ∈ s.wr, l.length ≤ 1000 := len_leB fun i hi => by rw [v.wrr i (by rw [v.wrl] at hi; exact hi)]; omega
  have b7 : ∀ l ∈ s.vals, l.length ≤ 1000 := len_le fun i hi => by
    have hi' : i < nT p := by rw [v.vall] at hi; exact hi
    rw [v.valr i hi']
    have := Valid.reads4 v.plan hi'
    omega
  have hown := OwnState_new s (by omega) (by omega) (by omega) (by omega) b5 b6 b7
  refine Fn.of_wp _ Try.func72 rfl (by kernel_rfl) Try.ntmps72 rfl ?_
  intro F hD hG
  ((repeat apply WP.seq); apply WP.lreg; refine ALK.n (opn_box (eB rfl) Cs.a rfl) rfl ?_; refine ALK.n (opn_box (eB rfl) Cs.a rfl) rfl ?_; refine ALK.n (opn_box (eB rfl) Cs.a rfl) rfl ?_; refine ALK.a (opa_alloc rfl rfl) rfl ?_; refine ALK.nil ?_; try show WP _ _ _ _ _ _)
  ((repeat apply WP.seq); apply WP.lreg; (first | refine ALK.n (opn_load rfl (eB rfl) rfl) rfl ?_ | refine ALK.r OpR.ld rfl ?_); refine ALK.e (ope_callE [] hown EvsS.a rfl rfl rfl HIn.a) rfl rfl ?_; refine ALK.a (opa_alloc rfl rfl) rfl ?_; (first | refine ALK.e (ope_store rfl (eB rfl) (eB rfl) Cs.a rfl rfl rfl) rfl rfl ?_ | refine ALK.e (ope_storeRow rfl rfl (eB rfl) (eB rfl) (oc_val rfl) rfl rfl (by assumption)) rfl rfl ?_); refine ALK.nil ?_; try show WP _ _ _ _ _ _)
  refine WP.shift (Shift.sub (σ' := [(6, .off 0 0), (7, .off 1 0), (3, .im (IV.ptr (cP p))), (4, .im (IV.ptr (cSt s))), (5, .im (IV.ptr [IV.int kind, IV.int (n : Int), IV.int (k : Int)]))]) (H' := (0, .blk 29 [.im (IV.val (.slice none 0 0)), .im (IV.val (.slice none 0 0)), .im (IV.val (.slice none 0 0)), .im (IV.val (.slice none 0 0))]) :: turnH 1 2 3 19 35 s) (fr' := 51) ([(0, 0), (1, 50), (2, 1)] ++ rnN 3 2 ++ rnN 19 18 ++ rnN 35 34) rfl SubE.a (SubH.cons rfl rfl (ObLe.blk SLes.a) (SubH.cons rfl rfl (ObLe.blk SLes.a) (SubH.cons rfl rfl (ObLe.row rfl) (SubH.cons rfl rfl (ObLe.nest rfl) (SubH.cons rfl rfl (ObLe.nest rfl) (SubH.cons rfl rfl (ObLe.nest rfl) SubH.nil))))))) ?_
  ((repeat apply WP.seq); apply WP.lreg; (first | refine ALK.n (opn_field (o := 1) rfl (eB rfl)) rfl ?_ | refine ALK.n (opn_fieldOff (o := 1) rfl (eB rfl)) rfl ?_); (first | refine ALK.n (opn_load rfl (eB rfl) rfl) rfl ?_ | refine ALK.r OpR.ld rfl ?_); (first | refine ALK.n (opn_field (o := 1) rfl (eB rfl)) rfl ?_ | refine ALK.n (opn_fieldOff (o := 1) rfl (eB rfl)) rfl ?_); (first | refine ALK.n (opn_load rfl (eB rfl) rfl) rfl ?_ | refine ALK.r OpR.ld rfl ?_); refine ALK.n OpN.ix rfl ?_; (first | refine ALK.n (opn_load rfl (eB rfl) rfl) rfl ?_ | refine ALK.r OpR.ld rfl ?_); refine ALK.a (opa_alloc rfl rfl) rfl ?_; (first | refine ALK.e (ope_store rfl (eB rfl) (eB rfl) Cs.a rfl rfl rfl) rfl rfl ?_ | refine ALK.e (ope_storeRow rfl rfl (eB rfl) (eB rfl) (oc_val rfl) rfl rfl (by assumption)) rfl rfl ?_); refine ALK.nil ?_; try show WP _ _ _ _ _ _)
  refine WP.shift (Shift.frzBlk 8 rfl rfl rfl) ?_
  ((repeat apply WP.seq); apply WP.lreg; (first | refine ALK.n (opn_field (o := 0) rfl (eB rfl)) rfl ?_ | refine ALK.n (opn_fieldOff (o := 0) rfl (eB rfl)) rfl ?_); (first | refine ALK.n (opn_load rfl (eB rfl) rfl) rfl ?_ | refine ALK.r OpR.ld rfl ?_); refine ALK.n OpN.cm rfl ?_; refine ALK.nil ?_; try show WP _ _ _ _ _ _)
  ((repeat apply WP.seq); refine WP.cond rfl (fun h => ?_) (fun h => ?_))
  · have hkd : kind = 1 := by simpa using h
    subst hkd
    have ht1 := turn1 p s n k
    rw [ht1]
    ((repeat apply WP.seq); apply WP.ldraw; (first | refine ALK.n (opn_field (o := 1) rfl (eB rfl)) rfl ?_ | refine ALK.n (opn_fieldOff (o := 1) rfl (eB rfl)) rfl ?_); (first | refine ALK.n (opn_load rfl (eB rfl) rfl) rfl ?_ | refine ALK.r OpR.ld rfl ?_); (first | refine ALK.n (opn_field (o := 1) rfl (eB rfl)) rfl ?_ | refine ALK.n (opn_fieldOff (o := 1) rfl (eB rfl)) rfl ?_); (first | refine ALK.n (opn_load rfl (eB rfl) rfl) rfl ?_ | refine ALK.r OpR.ld rfl ?_); refine ALK.n OpN.ix rfl ?_; refine ALK.r (opr_loadNest rfl rfl (eB rfl) rfl e1) rfl ?_; (first | refine ALK.n (opn_field (o := 2) rfl (eB rfl)) rfl ?_ | refine ALK.n (opn_fieldOff (o := 2) rfl (eB rfl)) rfl ?_); (first | refine ALK.n (opn_load rfl (eB rfl) rfl) rfl ?_ | refine ALK.r OpR.ld rfl ?_); refine ALK.n OpN.ix rfl ?_; refine ALK.e (ope_storeNest (z := true) rfl rfl (eB rfl) (eB rfl) (oc_val rfl) rfl e1 rfl (by omega)) rfl rfl ?_; refine ALK.nilD (by kernel_rfl) ?_; try show WP _ _ _ _ _ _)
    ((repeat apply WP.seq); apply WP.lreg; refine nA rfl rfl ?_; refine ALK.nil ?_; try show WP _ _ _ _ _ _)
    ((repeat apply WP.seq); apply WP.block)
    refine WP.loop (fun i : Nat => ⟨[(9, .im (IV.int i)), (6, .off 0 0), (7, .off 1 0), (3, .im (IV.ptr (cP p))), (4, .im (IV.ptr (cSt s))), (5, .im (IV.ptr [IV.int 1, IV.int (n : Int), IV.int (k : Int)])), (8, .im (IV.ptr (cT (txN p n))))], [(0, .blk 29 [.im (IV.val (.slice none 0 0)), .im (IV.val (.slice none 0 0)), .im (IV.val (.slice none 0 0)), .im (IV.val (.slice none 0 0))]), (1, stBlk 2 3 19 35 s), (2, rowI s.store), (3, nestB (set2 s.rd n k true)), (19, nestB s.wr), (35, nestI (s.vals.set n (rdTo (mS p) k s.store (txN p n).reads (s.vals.getD n []) i)))], 51⟩) (fun i => i ≤ (txN p n).reads.length) (fun i => (txN p n).reads.length - i) 0 (Nat.zero_le _)
      (Shift.sub ([(0, 0), (1, 1), (2, 2)] ++ rnN 3 3 ++ rnN 19 19 ++ rnN 35 35) rfl SubE.a (SubH.cons rfl rfl (ObLe.blk SLes.a) (SubH.cons rfl rfl (ObLe.blk SLes.a) (SubH.cons rfl rfl (ObLe.row rfl) (SubH.cons rfl rfl (ObLe.nest rfl) (SubH.cons rfl rfl (ObLe.nest rfl) (SubH.cons rfl rfl (ObLe.nest (by rw [rdTo_zero, set_same e3])) SubH.nil))))))) ?_
    rintro i hi
    ((repeat apply WP.seq); apply WP.lreg; refine nM rfl rfl ?_; (first | refine ALK.n (opn_field (o := 0) rfl (eB rfl)) rfl ?_ | refine ALK.n (opn_fieldOff (o := 0) rfl (eB rfl)) rfl ?_); (first | refine ALK.n (opn_load rfl (eB rfl) rfl) rfl ?_ | refine ALK.r OpR.ld rfl ?_); refine ALK.n OpN.ln rfl ?_; refine ALK.n OpN.cm rfl ?_; refine ALK.nil ?_; try show WP _ _ _ _ _ _)
    ((repeat apply WP.seq); refine WP.cond rfl (fun h => ?_) (fun h => ?_))
    · (refine WP.skip ?_; show WP _ _ _ _ _ _)
      have hlt : i < (txN p n).reads.length := by simpa using h
      obtain ⟨key, hkey⟩ := get_at hlt
      obtain ⟨k0, k8⟩ := hk1 key (List.mem_of_getElem? hkey)
      have hx := rdTo_next (m := mS p) (k := k) (st := s.store) (old := s.vals.getD n []) l6 hkey
      have hlen := rdTo_len (m := mS p) (k := k) (i := i) (st := s.store) l6
      have hh := here_eq (m := mS p) (k := k) k0
      have e4 : (s.vals.set n (rdTo (mS p) k s.store (txN p n).reads (s.vals.getD n []) i))[n]? = some (rdTo (mS p) k s.store (txN p n).reads (s.vals.getD n []) i) := set_at (by omega)
      have e5 := rdF_at (st := s.store) k0 (by omega)
      ((repeat apply WP.seq); apply WP.block)
      ((repeat apply WP.seq); apply WP.ldraw; (first | refine ALK.n (opn_field (o := 0) rfl (eB rfl)) rfl ?_ | refine ALK.n (opn_fieldOff (o := 0) rfl (eB rfl)) rfl ?_); (first | refine ALK.n (opn_load rfl (eB rfl) rfl) rfl ?_ | refine ALK.r OpR.ld rfl ?_); refine nM rfl rfl ?_; refine ALK.n OpN.ix rfl ?_; (first | refine ALK.n (opn_load rfl (eB rfl) rfl) rfl ?_ | refine ALK.r OpR.ld rfl ?_); (first | refine ALK.n (opn_field (o := 0) rfl (eB rfl)) rfl ?_ | refine ALK.n (opn_fieldOff (o := 0) rfl (eB rfl)) rfl ?_); (first | refine ALK.n (opn_load rfl (eB rfl) rfl) rfl ?_ | refine ALK.r OpR.ld rfl ?_); refine ALK.n (opn_rem (eB rfl) (eB rfl) (by omega) (by omega)) rfl ?_; (first | refine ALK.n (opn_field (o := 2) rfl (eB rfl)) rfl ?_ | refine ALK.n (opn_fieldOff (o := 2) rfl (eB rfl)) rfl ?_); (first | refine ALK.n (opn_load rfl (eB rfl) rfl) rfl ?_ | refine ALK.r OpR.ld rfl ?_); refine ALK.n OpN.cm rfl ?_; refine ALK.nilD (by kernel_rfl) ?_; try show WP _ _ _ _ _ _)
      ((repeat apply WP.seq); refine WP.cond rfl (fun h => ?_) (fun h => ?_))
      · rw [hm, ← hh] at h
        rw [if_pos h] at hx
        ((repeat apply WP.seq); apply WP.ldraw; (first | refine ALK.n (opn_field (o := 3) rfl (eB rfl)) rfl ?_ | refine ALK.n (opn_fieldOff (o := 3) rfl (eB rfl)) rfl ?_); (first | refine ALK.n (opn_load rfl (eB rfl) rfl) rfl ?_ | refine ALK.r OpR.ld rfl ?_); (first | refine ALK.n (opn_field (o := 1) rfl (eB rfl)) rfl ?_ | refine ALK.n (opn_fieldOff (o := 1) rfl (eB rfl)) rfl ?_); (first | refine ALK.n (opn_load rfl (eB rfl) rfl) rfl ?_ | refine ALK.r OpR.ld rfl ?_); refine ALK.n OpN.ix rfl ?_; refine ALK.r (opr_loadNest rfl rfl (eB rfl) rfl e4) rfl ?_; refine nM rfl rfl ?_; (first | refine ALK.n (opn_field (o := 0) rfl (eB rfl)) rfl ?_ | refine ALK.n (opn_fieldOff (o := 0) rfl (eB rfl)) rfl ?_); (first | refine ALK.n (opn_load rfl (eB rfl) rfl) rfl ?_ | refine ALK.r OpR.ld rfl ?_); (first | refine ALK.n (opn_field (o := 0) rfl (eB rfl)) rfl ?_ | refine ALK.n (opn_fieldOff (o := 0) rfl (eB rfl)) rfl ?_); (first | refine ALK.n (opn_load rfl (eB rfl) rfl) rfl ?_ | refine ALK.r OpR.ld rfl ?_); refine nM rfl rfl ?_; refine ALK.n OpN.ix rfl ?_; (first | refine ALK.n (opn_load rfl (eB rfl) rfl) rfl ?_ | refine ALK.r OpR.ld rfl ?_); refine ALK.n OpN.ix rfl ?_; (first | refine ALK.n (opn_load rfl (eB rfl) rfl) rfl ?_ | refine ALK.r OpR.ld rfl ?_); refine ALK.n OpN.ix rfl ?_; refine ALK.e (ope_storeNest (z := rdF s.store key) rfl rfl (eB rfl) (eB rfl) (oc_val rfl) rfl e4 rfl (by omega)) rfl rfl ?_; refine ALK.nilD (by kernel_rfl) ?_; try show WP _ _ _ _ _ _)
        ((repeat apply WP.seq); apply WP.lreg; refine nM rfl rfl ?_; refine ALK.n OpN.ar rfl ?_; refine nA rfl rfl ?_; refine ALK.nil ?_; try show WP _ _ _ _ _ _)
        show ∃ _, _ ∧ _ ∧ _
        exact ⟨i + 1, by omega, by omega, Shift.sub ([(0, 0), (1, 1), (2, 2)] ++ rnN 3 3 ++ rnN 19 19 ++ rnN 35 35) rfl SubE.a (SubH.cons rfl rfl (ObLe.blk SLes.a) (SubH.cons rfl rfl (ObLe.blk SLes.a) (SubH.cons rfl rfl (ObLe.row rfl) (SubH.cons rfl rfl (ObLe.nest rfl) (SubH.cons rfl rfl (ObLe.nest rfl) (SubH.cons rfl rfl (ObLe.nest (by rw [hx]; exact List.set_set ..)) SubH.nil))))))⟩
      · rw [hm, ← hh] at h
        rw [if_neg (by rw [h]; simp)] at hx
        (refine WP.skip ?_; show WP _ _ _ _ _ _)
        ((repeat apply WP.seq); apply WP.lreg; refine nM rfl rfl ?_; refine ALK.n OpN.ar rfl ?_; refine nA rfl rfl ?_; refine ALK.nil ?_; try show WP _ _ _ _ _ _)
        show ∃ _, _ ∧ _ ∧ _
        exact ⟨i + 1, by omega, by omega, Shift.sub ([(0, 0), (1, 1), (2, 2)] ++ rnN 3 3 ++ rnN 19 19 ++ rnN 35 35) rfl SubE.a (SubH.cons rfl rfl (ObLe.blk SLes.a) (SubH.cons rfl rfl (ObLe.blk SLes.a) (SubH.cons rfl rfl (ObLe.row rfl) (SubH.cons rfl rfl (ObLe.nest rfl) (SubH.cons rfl rfl (ObLe.nest rfl) (SubH.cons rfl rfl (ObLe.nest (by rw [hx])) SubH.nil))))))⟩
    · ((repeat apply WP.seq); refine WP.exit ?_; show WP _ _ _ _ _ _)
      have hi2 : i = (txN p n).reads.length := by simp at h; omega
      subst hi2
      rw [rdTo_all l6]
      refine WP.shift (Shift.frzIn 1 0 rfl rfl rfl rfl) ?_
      refine WP.shift (Shift.frzNestIn 1 1 rfl rfl rfl rfl) ?_
      refine WP.shift (Shift.frzNestIn 1 2 rfl rfl rfl rfl) ?_
      refine WP.shift (Shift.frzNestIn 1 3 rfl rfl rfl rfl) ?_
      ((repeat apply WP.seq); apply WP.lreg; (first | refine ALK.n (opn_load rfl (eB rfl) rfl) rfl ?_ | refine ALK.r OpR.ld rfl ?_); (first | refine ALK.e (ope_store rfl (eB rfl) (eB rfl) Cs.a rfl rfl rfl) rfl rfl ?_ | refine ALK.e (ope_storeRow rfl rfl (eB rfl) (eB rfl) (oc_val rfl) rfl rfl (by assumption)) rfl rfl ?_); refine ALK.nil ?_; try show WP _ _ _ _ _ _)
      ((repeat apply WP.seq); refine WP.ret ?_; first | exact RetOk.one Try.results72 ResV.a | exact RetOk.tup Try.results72 rfl ResVs.a)
  (refine WP.skip ?_; show WP _ _ _ _ _ _)
  have hkd : kind = 2 := by rcases hs.kd with h1 | h1; (subst h1; simp at h); exact h1
  subst hkd
  have ht2 := turn2 p s n k
  rw [ht2]
  ((repeat apply WP.seq); apply WP.ldraw; (first | refine ALK.n (opn_field (o := 2) rfl (eB rfl)) rfl ?_ | refine ALK.n (opn_fieldOff (o := 2) rfl (eB rfl)) rfl ?_); (first | refine ALK.n (opn_load rfl (eB rfl) rfl) rfl ?_ | refine ALK.r OpR.ld rfl ?_); (first | refine ALK.n (opn_field (o := 1) rfl (eB rfl)) rfl ?_ | refine ALK.n (opn_fieldOff (o := 1) rfl (eB rfl)) rfl ?_); (first | refine ALK.n (opn_load rfl (eB rfl) rfl) rfl ?_ | refine ALK.r OpR.ld rfl ?_); refine ALK.n OpN.ix rfl ?_; refine ALK.r (opr_loadNest rfl rfl (eB rfl) rfl e2) rfl ?_; (first | refine ALK.n (opn_field (o := 2) rfl (eB rfl)) rfl ?_ | refine ALK.n (opn_fieldOff (o := 2) rfl (eB rfl)) rfl ?_); (first | refine ALK.n (opn_load rfl (eB rfl) rfl) rfl ?_ | refine ALK.r OpR.ld rfl ?_); refine ALK.n OpN.ix rfl ?_; refine ALK.e (ope_storeNest (z := true) rfl rfl (eB rfl) (eB rfl) (oc_val rfl) rfl e2 rfl (by omega)) rfl rfl ?_; refine ALK.nilD (by kernel_rfl) ?_; try show WP _ _ _ _ _ _)
  ((repeat apply WP.seq); apply WP.ldraw; (first | refine ALK.n (opn_load rfl (eB rfl) rfl) rfl ?_ | refine ALK.r OpR.ld rfl ?_); (first | refine ALK.n (opn_field (o := 3) rfl (eB rfl)) rfl ?_ | refine ALK.n (opn_fieldOff (o := 3) rfl (eB rfl)) rfl ?_); (first | refine ALK.n (opn_load rfl (eB rfl) rfl) rfl ?_ | refine ALK.r OpR.ld rfl ?_); (first | refine ALK.n (opn_field (o := 1) rfl (eB rfl)) rfl ?_ | refine ALK.n (opn_fieldOff (o := 1) rfl (eB rfl)) rfl ?_); (first | refine ALK.n (opn_load rfl (eB rfl) rfl) rfl ?_ | refine ALK.r OpR.ld rfl ?_); refine ALK.n OpN.ix rfl ?_; (first | refine ALK.n (opn_load rfl (eB rfl) rfl) rfl ?_ | refine ALK.r OpR.ld rfl ?_); refine ALK.n (opn_call (ref_RunOf_fn (txN p n) (s.vals.getD n []) hbt hok l6) (Evs.cons Ev.a (Evs.cons Ev.a Evs.nil))) rfl ?_; refine nM rfl rfl ?_; refine nX rfl rfl rfl ?_; refine nX rfl rfl rfl ?_; refine ALK.a (opa_alloc rfl rfl) rfl ?_; (first | refine ALK.e (ope_store rfl (eB rfl) (eB rfl) Cs.a rfl rfl rfl) rfl rfl ?_ | refine ALK.e (ope_storeRow rfl rfl (eB rfl) (eB rfl) (oc_val rfl) rfl rfl (by assumption)) rfl rfl ?_); refine nA rfl rfl ?_; refine ALK.nilD (by kernel_rfl) ?_; try show WP _ _ _ _ _ _)
  have hle := runSets_len (t := txN p n) (xs := s.vals.getD n [])
  obtain ⟨l, hl⟩ : ∃ l, l = runSets (txN p n) (s.vals.getD n []) := ⟨_, rfl⟩
  rw [← hl] at hle ⊢
  ((repeat apply WP.seq); apply WP.lreg; refine nA rfl rfl ?_; refine ALK.nil ?_; try show WP _ _ _ _ _ _)
  ((repeat apply WP.seq); apply WP.block)
  refine WP.loop (fun j : Nat => ⟨[(12, .im (IV.int j)), (11, .im (intsV l)), (6, .off 0 0), (7, .off 1 0), (3, .im (IV.ptr (cP p))), (4, .im (IV.ptr (cSt s))), (5, .im (IV.ptr [IV.int 2, IV.int (n : Int), IV.int (k : Int)])), (8, .im (IV.ptr (cT (txN p n))))], [(0, .blk 29 [.im (IV.val (.slice none 0 0)), .im (IV.val (.slice none 0 0)), .im (IV.val (.slice none 0 0)), .im (IV.val (.slice none 0 0))]), (1, stBlk 2 3 19 35 s), (2, rowI (wrTo (mS p) k s.store (txN p n) (s.vals.getD n []) j)), (3, nestB s.rd), (19, nestB (set2 s.wr n k true)), (35, nestI s.vals)], 51⟩) (fun j => j ≤ l.length) (fun j => l.length - j) 0 (Nat.zero_le _)
    (Shift.sub ([(0, 0), (1, 1), (2, 2)] ++ rnN 3 3 ++ rnN 19 19 ++ rnN 35 35) rfl SubE.a (SubH.cons rfl rfl (ObLe.blk SLes.a) (SubH.cons rfl rfl (ObLe.blk SLes.a) (SubH.cons rfl rfl (ObLe.row wrTo_zero.symm) (SubH.cons rfl rfl (ObLe.nest rfl) (SubH.cons rfl rfl (ObLe.nest rfl) (SubH.cons rfl rfl (ObLe.nest rfl) SubH.nil))))))) ?_
  rintro j hj
  ((repeat apply WP.seq); apply WP.lreg; refine nM rfl rfl ?_; refine nM rfl rfl ?_; refine ALK.n OpN.ln rfl ?_; refine ALK.n OpN.cm rfl ?_; refine ALK.nil ?_; try show WP _ _ _ _ _ _)
  ((repeat apply WP.seq); refine WP.cond rfl (fun h => ?_) (fun h => ?_))
  · (refine WP.skip ?_; show WP _ _ _ _ _ _)
    have hjl : j < l.length := by simpa using h
    obtain ⟨z, hz⟩ := get_at hjl
    obtain ⟨q, hq⟩ := get_at (xs := (txN p n).sets) (k := j) (by omega)
    obtain ⟨k0, k8⟩ := hk2 q.key (List.mem_map.2 ⟨q, List.mem_of_getElem? hq, rfl⟩)
    have hzz : ((txN p n).sets.zip (runSets (txN p n) (s.vals.getD n [])))[j]? = some (q, z) := by rw [← hl, List.getElem?_zip_eq_some]; exact ⟨hq, hz⟩
    have hx := wrTo_next (m := mS p) (k := k) (st := s.store) hzz
    have hlen := wrTo_len (m := mS p) (k := k) (j := j) (st := s.store) (xs := s.vals.getD n []) (t := txN p n)
    have hh := here_eq (m := mS p) (k := k) k0
    have hkl : q.key.toNat < (wrTo (mS p) k s.store (txN p n) (s.vals.getD n []) j).length := by omega
    ((repeat apply WP.seq); apply WP.block)
    ((repeat apply WP.seq); apply WP.ldraw; (first | refine ALK.n (opn_field (o := 2) rfl (eB rfl)) rfl ?_ | refine ALK.n (opn_fieldOff (o := 2) rfl (eB rfl)) rfl ?_); (first | refine ALK.n (opn_load rfl (eB rfl) rfl) rfl ?_ | refine ALK.r OpR.ld rfl ?_); refine nM rfl rfl ?_; refine ALK.n OpN.ix rfl ?_; (first | refine ALK.n (opn_field (o := 0) rfl (eB rfl)) rfl ?_ | refine ALK.n (opn_fieldOff (o := 0) rfl (eB rfl)) rfl ?_); (first | refine ALK.n (opn_load rfl (eB rfl) rfl) rfl ?_ | refine ALK.r OpR.ld rfl ?_); (first | refine ALK.n (opn_field (o := 0) rfl (eB rfl)) rfl ?_ | refine ALK.n (opn_fieldOff (o := 0) rfl (eB rfl)) rfl ?_); (first | refine ALK.n (opn_load rfl (eB rfl) rfl) rfl ?_ | refine ALK.r OpR.ld rfl ?_); refine ALK.n (opn_rem (eB rfl) (eB rfl) (by omega) (by omega)) rfl ?_; (first | refine ALK.n (opn_field (o := 2) rfl (eB rfl)) rfl ?_ | refine ALK.n (opn_fieldOff (o := 2) rfl (eB rfl)) rfl ?_); (first | refine ALK.n (opn_load rfl (eB rfl) rfl) rfl ?_ | refine ALK.r OpR.ld rfl ?_); refine ALK.n OpN.cm rfl ?_; refine ALK.nilD (by kernel_rfl) ?_; try show WP _ _ _ _ _ _)
    ((repeat apply WP.seq); refine WP.cond rfl (fun h => ?_) (fun h => ?_))
    · rw [hm, ← hh] at h
      simp only [h, if_true] at hx
      ((repeat apply WP.seq); apply WP.ldraw; (first | refine ALK.n (opn_field (o := 0) rfl (eB rfl)) rfl ?_ | refine ALK.n (opn_fieldOff (o := 0) rfl (eB rfl)) rfl ?_); (first | refine ALK.n (opn_load rfl (eB rfl) rfl) rfl ?_ | refine ALK.r OpR.ld rfl ?_); (first | refine ALK.n (opn_field (o := 2) rfl (eB rfl)) rfl ?_ | refine ALK.n (opn_fieldOff (o := 2) rfl (eB rfl)) rfl ?_); (first | refine ALK.n (opn_load rfl (eB rfl) rfl) rfl ?_ | refine ALK.r OpR.ld rfl ?_); refine nM rfl rfl ?_; refine ALK.n OpN.ix rfl ?_; (first | refine ALK.n (opn_field (o := 0) rfl (eB rfl)) rfl ?_ | refine ALK.n (opn_fieldOff (o := 0) rfl (eB rfl)) rfl ?_); (first | refine ALK.n (opn_load rfl (eB rfl) rfl) rfl ?_ | refine ALK.r OpR.ld rfl ?_); refine nM rfl rfl ?_; refine nM rfl rfl ?_; refine ALK.n OpN.ix rfl ?_; (first | refine ALK.n (opn_load rfl (eB rfl) rfl) rfl ?_ | refine ALK.r OpR.ld rfl ?_); refine ALK.n OpN.ix rfl ?_; (first | refine ALK.e (ope_store rfl (eB rfl) (eB rfl) Cs.a rfl rfl rfl) rfl rfl ?_ | refine ALK.e (ope_storeRow rfl rfl (eB rfl) (eB rfl) (oc_val rfl) rfl rfl (by assumption)) rfl rfl ?_); refine ALK.nilD (by kernel_rfl) ?_; try show WP _ _ _ _ _ _)
      ((repeat apply WP.seq); apply WP.lreg; refine nM rfl rfl ?_; refine ALK.n OpN.ar rfl ?_; refine nA rfl rfl ?_; refine ALK.nil ?_; try show WP _ _ _ _ _ _)
      show ∃ _, _ ∧ _ ∧ _
      exact ⟨j + 1, by omega, by omega, Shift.sub ([(0, 0), (1, 1), (2, 2)] ++ rnN 3 3 ++ rnN 19 19 ++ rnN 35 35) rfl SubE.a (SubH.cons rfl rfl (ObLe.blk SLes.a) (SubH.cons rfl rfl (ObLe.blk SLes.a) (SubH.cons rfl rfl (ObLe.row hx.symm) (SubH.cons rfl rfl (ObLe.nest rfl) (SubH.cons rfl rfl (ObLe.nest rfl) (SubH.cons rfl rfl (ObLe.nest rfl) SubH.nil))))))⟩
    · rw [hm, ← hh] at h
      simp only [h, Bool.false_eq_true, if_false] at hx
      (refine WP.skip ?_; show WP _ _ _ _ _ _)
      ((repeat apply WP.seq); apply WP.lreg; refine nM rfl rfl ?_; refine ALK.n OpN.ar rfl ?_; refine nA rfl rfl ?_; refine ALK.nil ?_; try show WP _ _ _ _ _ _)
      show ∃ _, _ ∧ _ ∧ _
      exact ⟨j + 1, by omega, by omega, Shift.sub ([(0, 0), (1, 1), (2, 2)] ++ rnN 3 3 ++ rnN 19 19 ++ rnN 35 35) rfl SubE.a (SubH.cons rfl rfl (ObLe.blk SLes.a) (SubH.cons rfl rfl (ObLe.blk SLes.a) (SubH.cons rfl rfl (ObLe.row hx.symm) (SubH.cons rfl rfl (ObLe.nest rfl) (SubH.cons rfl rfl (ObLe.nest rfl) (SubH.cons rfl rfl (ObLe.nest rfl) SubH.nil))))))⟩
  · ((repeat apply WP.seq); refine WP.exit ?_; show WP _ _ _ _ _ _)
    have hjl : ((txN p n).sets.zip (runSets (txN p n) (s.vals.getD n []))).length ≤ j := by simp at h; rw [List.length_zip, ← hl]; omega
    rw [wrTo_all hjl]
    refine WP.shift (Shift.frzIn 1 0 rfl rfl rfl rfl) ?_
    refine WP.shift (Shift.frzNestIn 1 1 rfl rfl rfl rfl) ?_
    refine WP.shift (Shift.frzNestIn 1 2 rfl rfl rfl rfl) ?_
    refine WP.shift (Shift.frzNestIn 1 3 rfl rfl rfl rfl) ?_
    ((repeat apply WP.seq); apply WP.lreg; (first | refine ALK.n (opn_load rfl (eB rfl) rfl) rfl ?_ | refine ALK.r OpR.ld rfl ?_); (first | refine ALK.e (ope_store rfl (eB rfl) (eB rfl) Cs.a rfl rfl rfl) rfl rfl ?_ | refine ALK.e (ope_storeRow rfl rfl (eB rfl) (eB rfl) (oc_val rfl) rfl rfl (by assumption)) rfl rfl ?_); refine ALK.nil ?_; try show WP _ _ _ _ _ _)
    ((repeat apply WP.seq); refine WP.ret ?_; first | exact RetOk.one Try.results72 ResV.a | exact RetOk.tup Try.results72 rfl ResVs.a)
end Go.Proofs.Ytjgmbgfcffnanac
