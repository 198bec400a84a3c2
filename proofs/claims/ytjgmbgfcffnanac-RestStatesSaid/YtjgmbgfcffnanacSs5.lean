/- Package steps: Turn, a state of one's own by a step that may be. -/
import Derived.Test.YtjgmbgfcffnanacSs4
import Derived.Test.YtjgmbgfcffnanacSpC
namespace Go.Proofs.Ytjgmbgfcffnanac
open Go.RowKit

theorem txn_Do_new (t : Txn) (xs : List Int) (hb : TxnB t) (hok : checkTxn t = 0) (hx : xs.length = t.reads.length) : FnN (Cfg.mk Try.prog (ttAt ttl) ttl_ok.ok mixd) 76 [txnV t, intsV xs] (IV.tup [resV ⟨runDone t xs, xs⟩, intsV (runSets t xs)]) :=
  ⟨⟨_, Try.func76, rfl, by kernel_rfl⟩, fun μ w vs ⟨v0, _, e0, h0, v1, _, e1, h1, e2⟩ ha => by
    subst e0 e1 e2
    obtain ⟨ra, rc, ga, gc, sa, sc, rfl, h⟩ := txn_at ha hb h0
    obtain ⟨xa, xc, rfl, _, _, hr⟩ := view_rd ha cI_val (fun _ => by simp [encI]) h1
    rw [hx] at hr
    rw [hx]
    refine (txn_Do _ _ _ _ _ _ _ _ _ t _ _ xs w h hr hok).mono ?_
    rintro e w' ⟨v1, v2, rfl, o1, o2, hb⟩
    obtain ⟨μ', k1, k2, k3, k4⟩ := own_freeze (mem0_agr w') cI_val encI_len oneI o1
    obtain ⟨ν, m1, m2, m3, m4⟩ := own_freeze k3 cI_val encI_len oneI o2
    have ho : v1.oneCell' = true := by obtain ⟨A, c, e, _⟩ := k4; rw [e]; rfl
    refine ⟨_, ν, rfl, ⟨[.agg #[.bool _, v1], v2], rfl, _, _, rfl, ⟨[.bool _, v1], rfl, ⟨_, _, rfl, rfl, _, _, rfl, IV.mono _ m1 k4, rfl⟩, ?_⟩, _, _, rfl, m4, rfl⟩, fun b hb => (m2 b hb).elim (fun h => (k2 b h).elim (fun h => absurd rfl h) id) id, m3, hb⟩
    intro u hu
    simp only [List.mem_cons, List.not_mem_nil, or_false] at hu
    rcases hu with rfl | rfl
    · rfl
    · exact ho⟩

/- what has been read so far -/
def rdTo (m k : Nat) (st keys old : List Int) (i : Nat) : List Int := rdV m k st (keys.take i) (old.take i) ++ old.drop i
theorem rdTo_len {m k i : Nat} {st keys old : List Int} (h : old.length = keys.length) : (rdTo m k st keys old i).length = keys.length := by
  unfold rdTo rdV
  rw [List.length_append, List.length_map, List.length_zip, List.length_take, List.length_take, List.length_drop]; omega
theorem rdTo_next {m k i : Nat} {st keys old : List Int} {key : Int} (hl : old.length = keys.length) (h : keys[i]? = some key) : rdTo m k st keys old (i + 1) = if hereB m k key then (rdTo m k st keys old i).set i (rdF st key) else rdTo m k st keys old i := by
  have hi := (List.getElem?_eq_some_iff.1 h).1
  have ho : old[i]? = some (old.getD i 0) := getD_of_lt 0 (by omega)
  have hd : old.drop i = old.getD i 0 :: old.drop (i + 1) := by
    rw [List.drop_eq_getElem_cons (by omega)]
    congr 1
    rw [List.getElem?_eq_getElem (by omega)] at ho
    exact Option.some.inj ho
  have hx : (rdV m k st (keys.take i) (old.take i)).length = i := by
    unfold rdV; rw [List.length_map, List.length_zip, List.length_take, List.length_take]; omega
  unfold rdTo
  rw [take_snoc h, take_snoc ho]
  have hz : (keys.take i ++ [key]).zip (old.take i ++ [old.getD i 0]) = (keys.take i).zip (old.take i) ++ [(key, old.getD i 0)] := by
    rw [List.zip_append (by rw [List.length_take, List.length_take]; omega)]; rfl
  have hv : rdV m k st (keys.take i ++ [key]) (old.take i ++ [old.getD i 0]) = rdV m k st (keys.take i) (old.take i) ++ [if hereB m k key then rdF st key else old.getD i 0] := by
    unfold rdV; rw [hz, List.map_append]; rfl
  rw [hv, hd]
  by_cases e : hereB m k key = true
  · rw [if_pos e, if_pos e, List.set_append_right _ _ (by omega), hx, Nat.sub_self]
    simp
  · rw [if_neg e, if_neg e]; simp
theorem rdTo_zero {m k : Nat} {st keys old : List Int} : rdTo m k st keys old 0 = old := by simp [rdTo, rdV]
theorem rdTo_all {m k : Nat} {st keys old : List Int} (h : old.length = keys.length) : rdTo m k st keys old keys.length = rdV m k st keys old := by
  unfold rdTo
  rw [List.take_length, ← h, List.take_length, List.drop_length, List.append_nil]
/- what has been written so far -/
def wrTo (m k : Nat) (st : List Int) (t : Txn) (xs : List Int) (j : Nat) : List Int := putZ st (((t.sets.zip (runSets t xs)).take j).filter fun q => hereB m k q.1.key)
theorem wrTo_len {m k j : Nat} {st xs : List Int} {t : Txn} : (wrTo m k st t xs j).length = st.length := putZ_length _ _
theorem wrTo_next {m k j : Nat} {st xs : List Int} {t : Txn} {q : SetT × Int} (h : (t.sets.zip (runSets t xs))[j]? = some q) : wrTo m k st t xs (j + 1) = if hereB m k q.1.key then (wrTo m k st t xs j).set q.1.key.toNat q.2 else wrTo m k st t xs j := by
  unfold wrTo
  rw [take_snoc h, List.filter_append]
  by_cases e : hereB m k q.1.key = true
  · rw [if_pos e, show List.filter (fun q : SetT × Int => hereB m k q.1.key) [q] = [q] by simp [List.filter, e]]
    unfold putZ
    rw [List.foldl_append]; rfl
  · rw [if_neg e, show List.filter (fun q : SetT × Int => hereB m k q.1.key) [q] = [] by simp [List.filter, e], List.append_nil]
theorem wrTo_zero {m k : Nat} {st xs : List Int} {t : Txn} : wrTo m k st t xs 0 = st := by simp [wrTo, putZ]
theorem wrTo_all {m k j : Nat} {st xs : List Int} {t : Txn} (h : (t.sets.zip (runSets t xs)).length ≤ j) : wrTo m k st t xs j = putZ st (wrP m k t xs) := by unfold wrTo wrP; rw [List.take_of_length_le h]
theorem here_eq {m k : Nat} {key : Int} (h0 : 0 ≤ key) : hereB m k key = (key % (m : Int) == (k : Int)) := by unfold hereB; rw [Int.tmod_eq_emod_of_nonneg h0]; rfl
theorem set_at {α : Type} {l : List α} {n : Nat} {x : α} (h : n < l.length) : (l.set n x)[n]? = some x := by rw [List.getElem?_set_self h]
theorem set_set' {α : Type} {l : List α} {n : Nat} {x y : α} : (l.set n x).set n y = l.set n y := List.set_set ..
theorem set_same {α : Type} {l : List α} {n : Nat} {x : α} (h : l[n]? = some x) : l.set n x = l := by
  apply List.ext_getElem?
  intro j
  rw [List.getElem?_set]
  split
  · rename_i e; subst e
    have := (List.getElem?_eq_some_iff.1 h).1
    rw [if_pos this, h]
  · rfl

abbrev stBlk (a b c d : Nat) (s : StT) : HObj := .blk 29 [.row a s.store.length, .row b s.rd.length, .row c s.wr.length, .row d s.vals.length]
abbrev turnH (z a b c d : Nat) (s : StT) : List Ent := (z, stBlk a b c d s) :: ownH s a b c d

set_option maxRecDepth 100000 in
set_option maxHeartbeats 2000000 in
theorem Turn_new (p : Plan) (s : StT) (kind : Int) (n k : Nat) (v : Valid p s) (hB : TxsB p.txns) (hs : Step p s kind n k) :
    FnE (Cfg.mk Try.prog (ttAt ttl) ttl_ok.ok mixd) 63 50 [.im (planV p), .off 0 0, .im (IV.agg [IV.int kind, IV.int (n : Int), IV.int (k : Int)])] (turnH 0 1 2 18 34 s) (.im (IV.tup [])) (turnH 0 50 51 67 83 (turnS p s kind n k)) 99 [0] := by
  obtain ⟨hm, hm1, hm4, hn8, hall⟩ := plan_m v.plan
  obtain ⟨ht, hok⟩ := hall n hs.hn
  have hbt : TxnB (txN p n) := hB _ (List.mem_of_getElem? ht)
  obtain ⟨hk1, hk2⟩ := right_keys hok
  obtain ⟨hz1, hz2, hz3, hz4⟩ := (right_parts hok).1
  have hkm := hs.hk
  have hnn := hs.hn
  have hnT : nT p = p.txns.length := rfl
  have l1 := v.rdl
  have l2 := v.wrl
  have l3 := v.vall
  have l4 := v.rdr n hnn
  have l5 := v.wrr n hnn
  have l6 := v.valr n hnn
  have l7 := v.store
  have e1 : s.rd[n]? = some (s.rd.getD n []) := getD_of_lt [] (by omega)
  have e2 : s.wr[n]? = some (s.wr.getD n []) := getD_of_lt [] (by omega)
  have e3 : s.vals[n]? = some (s.vals.getD n []) := getD_of_lt [] (by omega)
  refine FnE.of_wp _ [(0, 1)] Try.func63 rfl (by kernel_rfl) Try.ntmps63 rfl rfl rfl rfl rfl rfl rfl rfl rfl ?_
  intro F vs hD hvs
  obtain ⟨v0, v1, v2, rfl⟩ := len3 hvs
  show WP _ _ _ _ _ ⟨[(0, .im (planV p)), (1, .is v1 (.off 0 0)), (2, .im (IV.agg [IV.int kind, IV.int (n : Int), IV.int (k : Int)]))], turnH 0 1 2 18 34 s, 50⟩
  ((repeat apply WP.seq); apply WP.lreg; refine ALK.n (opn_box (eB rfl) Cs.a rfl) rfl ?_; refine ALK.n (opn_box (eB rfl) Cs.a rfl) rfl ?_; refine ALK.nil ?_; try show WP _ _ _ _ _ _)
  ((repeat apply WP.seq); apply WP.lreg; (first | refine ALK.n (opn_field (o := 1) rfl (eB rfl)) rfl ?_ | refine ALK.n (opn_fieldOff (o := 1) rfl (eB rfl)) rfl ?_); (first | refine ALK.n (opn_load rfl (eB rfl) rfl) rfl ?_ | refine ALK.r OpR.ld rfl ?_); (first | refine ALK.n (opn_field (o := 1) rfl (eB rfl)) rfl ?_ | refine ALK.n (opn_fieldOff (o := 1) rfl (eB rfl)) rfl ?_); (first | refine ALK.n (opn_load rfl (eB rfl) rfl) rfl ?_ | refine ALK.r OpR.ld rfl ?_); refine ALK.n OpN.ix rfl ?_; (first | refine ALK.n (opn_load rfl (eB rfl) rfl) rfl ?_ | refine ALK.r OpR.ld rfl ?_); refine ALK.a (opa_alloc rfl rfl) rfl ?_; (first | refine ALK.e (ope_store rfl (eB rfl) (eB rfl) Cs.a rfl rfl rfl) rfl rfl ?_ | refine ALK.e (ope_storeRow rfl rfl (eB rfl) (eB rfl) (oc_val rfl) rfl rfl (by assumption)) rfl rfl ?_); refine ALK.nil ?_; try show WP _ _ _ _ _ _)
  refine WP.shift (Shift.frzBlk 6 rfl rfl rfl) ?_
  ((repeat apply WP.seq); apply WP.lreg; (first | refine ALK.n (opn_field (o := 0) rfl (eB rfl)) rfl ?_ | refine ALK.n (opn_fieldOff (o := 0) rfl (eB rfl)) rfl ?_); (first | refine ALK.n (opn_load rfl (eB rfl) rfl) rfl ?_ | refine ALK.r OpR.ld rfl ?_); refine ALK.n OpN.cm rfl ?_; refine ALK.nil ?_; try show WP _ _ _ _ _ _)
  ((repeat apply WP.seq); refine WP.cond rfl (fun h => ?_) (fun h => ?_))
  · have hkd : kind = 1 := by simpa using h
    subst hkd
    have ht1 := turn1 p s n k
    rw [ht1]
    ((repeat apply WP.seq); apply WP.ldraw; refine ALK.n (opn_move (Ev.is rfl)) rfl ?_; (first | refine ALK.n (opn_nilPtr (eB rfl)) rfl ?_ | refine ALK.n (opn_nilOff (eB rfl)) rfl ?_); (first | refine ALK.n (opn_field (o := 1) rfl (eB rfl)) rfl ?_ | refine ALK.n (opn_fieldOff (o := 1) rfl (eB rfl)) rfl ?_); (first | refine ALK.n (opn_load rfl (eB rfl) rfl) rfl ?_ | refine ALK.r OpR.ld rfl ?_); (first | refine ALK.n (opn_field (o := 1) rfl (eB rfl)) rfl ?_ | refine ALK.n (opn_fieldOff (o := 1) rfl (eB rfl)) rfl ?_); (first | refine ALK.n (opn_load rfl (eB rfl) rfl) rfl ?_ | refine ALK.r OpR.ld rfl ?_); refine ALK.n OpN.ix rfl ?_; refine ALK.r (opr_loadNest rfl rfl (eB rfl) rfl e1) rfl ?_; (first | refine ALK.n (opn_field (o := 2) rfl (eB rfl)) rfl ?_ | refine ALK.n (opn_fieldOff (o := 2) rfl (eB rfl)) rfl ?_); (first | refine ALK.n (opn_load rfl (eB rfl) rfl) rfl ?_ | refine ALK.r OpR.ld rfl ?_); refine ALK.n OpN.ix rfl ?_; refine ALK.e (ope_storeNest (z := true) rfl rfl (eB rfl) (eB rfl) (oc_val rfl) rfl e1 rfl (by omega)) rfl rfl ?_; refine ALK.nilD (by kernel_rfl) ?_; try show WP _ _ _ _ _ _)
    ((repeat apply WP.seq); apply WP.lreg; (first | refine ALK.n (opn_field (o := 0) rfl (eB rfl)) rfl ?_ | refine ALK.n (opn_fieldOff (o := 0) rfl (eB rfl)) rfl ?_); (first | refine ALK.n (opn_load rfl (eB rfl) rfl) rfl ?_ | refine ALK.r OpR.ld rfl ?_); refine ALK.n OpN.ln rfl ?_; refine nM rfl rfl ?_; refine ALK.nil ?_; try show WP _ _ _ _ _ _)
    ((repeat apply WP.seq); apply WP.block)
    refine WP.loop (fun i : Nat => ⟨[(37, .im (IV.int i)), (35, .im (intsV (txN p n).reads)), (36, .im (IV.int (txN p n).reads.length)), (1, .is v1 (.off 0 0)), (3, .im (IV.ptr (cP p))), (5, .im (IV.ptr [IV.int 1, IV.int (n : Int), IV.int (k : Int)])), (6, .im (IV.ptr (cT (txN p n))))], [(0, stBlk 1 2 18 34 s), (1, rowI s.store), (2, nestB (set2 s.rd n k true)), (18, nestB s.wr), (34, nestI (s.vals.set n (rdTo (mS p) k s.store (txN p n).reads (s.vals.getD n []) i)))], 50⟩) (fun i => i ≤ (txN p n).reads.length) (fun i => (txN p n).reads.length - i) 0 (Nat.zero_le _)
      (Shift.sub ([(0, 0), (1, 1)] ++ rnN 2 2 ++ rnN 18 18 ++ rnN 34 34) rfl SubE.a (SubH.cons rfl rfl (ObLe.blk SLes.a) (SubH.cons rfl rfl (ObLe.row rfl) (SubH.cons rfl rfl (ObLe.nest rfl) (SubH.cons rfl rfl (ObLe.nest rfl) (SubH.cons rfl rfl (ObLe.nest (by rw [rdTo_zero, set_same e3])) SubH.nil)))))) ?_
    rintro i hi
    ((repeat apply WP.seq); apply WP.lreg; refine ALK.n OpN.cm rfl ?_; refine ALK.nil ?_; try show WP _ _ _ _ _ _)
    ((repeat apply WP.seq); refine WP.cond rfl (fun h => ?_) (fun h => ?_))
    · (refine WP.skip ?_; show WP _ _ _ _ _ _)
      have hlt : i < (txN p n).reads.length := by simpa using h
      obtain ⟨key, hkey⟩ := get_at hlt
      obtain ⟨k0, k8⟩ := hk1 key (List.mem_of_getElem? hkey)
      have hx := rdTo_next (m := mS p) (k := k) (st := s.store) (old := s.vals.getD n []) l6 hkey
      have hlen := rdTo_len (m := mS p) (k := k) (i := i) (st := s.store) l6
      have hh := here_eq (m := mS p) (k := k) k0
      have e4 : (s.vals.set n (rdTo (mS p) k s.store (txN p n).reads (s.vals.getD n []) i))[n]? = some (rdTo (mS p) k s.store (txN p n).reads (s.vals.getD n []) i) := set_at (by omega)
      have e5 := rdF_at (st := s.store) k0 (by omega)
      ((repeat apply WP.seq); apply WP.block)
      ((repeat apply WP.seq); apply WP.lreg; refine nM rfl rfl ?_; refine ALK.n OpN.ix rfl ?_; (first | refine ALK.n (opn_load rfl (eB rfl) rfl) rfl ?_ | refine ALK.r OpR.ld rfl ?_); refine nA rfl rfl ?_; refine nA rfl rfl ?_; refine ALK.nil ?_; try show WP _ _ _ _ _ _)
      ((repeat apply WP.seq); apply WP.ldraw; refine nM rfl rfl ?_; (first | refine ALK.n (opn_field (o := 0) rfl (eB rfl)) rfl ?_ | refine ALK.n (opn_fieldOff (o := 0) rfl (eB rfl)) rfl ?_); (first | refine ALK.n (opn_load rfl (eB rfl) rfl) rfl ?_ | refine ALK.r OpR.ld rfl ?_); refine ALK.n (opn_rem (eB rfl) (eB rfl) (by omega) (by omega)) rfl ?_; (first | refine ALK.n (opn_field (o := 2) rfl (eB rfl)) rfl ?_ | refine ALK.n (opn_fieldOff (o := 2) rfl (eB rfl)) rfl ?_); (first | refine ALK.n (opn_load rfl (eB rfl) rfl) rfl ?_ | refine ALK.r OpR.ld rfl ?_); refine ALK.n OpN.cm rfl ?_; refine ALK.nilD (by kernel_rfl) ?_; try show WP _ _ _ _ _ _)
      ((repeat apply WP.seq); refine WP.cond rfl (fun h => ?_) (fun h => ?_))
      · rw [hm, ← hh] at h
        rw [if_pos h] at hx
        ((repeat apply WP.seq); apply WP.ldraw; refine ALK.n (opn_move (Ev.is rfl)) rfl ?_; (first | refine ALK.n (opn_nilPtr (eB rfl)) rfl ?_ | refine ALK.n (opn_nilOff (eB rfl)) rfl ?_); (first | refine ALK.n (opn_field (o := 3) rfl (eB rfl)) rfl ?_ | refine ALK.n (opn_fieldOff (o := 3) rfl (eB rfl)) rfl ?_); (first | refine ALK.n (opn_load rfl (eB rfl) rfl) rfl ?_ | refine ALK.r OpR.ld rfl ?_); (first | refine ALK.n (opn_field (o := 1) rfl (eB rfl)) rfl ?_ | refine ALK.n (opn_fieldOff (o := 1) rfl (eB rfl)) rfl ?_); (first | refine ALK.n (opn_load rfl (eB rfl) rfl) rfl ?_ | refine ALK.r OpR.ld rfl ?_); refine ALK.n OpN.ix rfl ?_; refine ALK.r (opr_loadNest rfl rfl (eB rfl) rfl e4) rfl ?_; refine nM rfl rfl ?_; refine ALK.n (opn_move (Ev.is rfl)) rfl ?_; (first | refine ALK.n (opn_nilPtr (eB rfl)) rfl ?_ | refine ALK.n (opn_nilOff (eB rfl)) rfl ?_); (first | refine ALK.n (opn_field (o := 0) rfl (eB rfl)) rfl ?_ | refine ALK.n (opn_fieldOff (o := 0) rfl (eB rfl)) rfl ?_); (first | refine ALK.n (opn_load rfl (eB rfl) rfl) rfl ?_ | refine ALK.r OpR.ld rfl ?_); refine nM rfl rfl ?_; refine ALK.n OpN.ix rfl ?_; refine ALK.r (opr_loadRow rfl rfl (eB rfl) rfl e5 rfl) rfl ?_; refine ALK.n OpN.ix rfl ?_; refine ALK.e (ope_storeNest (z := rdF s.store key) rfl rfl (eB rfl) (eB rfl) (oc_val rfl) rfl e4 rfl (by omega)) rfl rfl ?_; refine ALK.nilD (by kernel_rfl) ?_; try show WP _ _ _ _ _ _)
        ((repeat apply WP.seq); apply WP.lreg; refine ALK.n OpN.ar rfl ?_; refine nM rfl rfl ?_; refine ALK.nil ?_; try show WP _ _ _ _ _ _)
        show ∃ _, _ ∧ _ ∧ _
        exact ⟨i + 1, by omega, by omega, Shift.sub ([(0, 0), (1, 1)] ++ rnN 2 2 ++ rnN 18 18 ++ rnN 34 34) rfl SubE.a (SubH.cons rfl rfl (ObLe.blk SLes.a) (SubH.cons rfl rfl (ObLe.row rfl) (SubH.cons rfl rfl (ObLe.nest rfl) (SubH.cons rfl rfl (ObLe.nest rfl) (SubH.cons rfl rfl (ObLe.nest (by rw [hx]; exact List.set_set ..)) SubH.nil)))))⟩
      · rw [hm, ← hh] at h
        rw [if_neg (by rw [h]; simp)] at hx
        (refine WP.skip ?_; show WP _ _ _ _ _ _)
        ((repeat apply WP.seq); apply WP.lreg; refine ALK.n OpN.ar rfl ?_; refine nM rfl rfl ?_; refine ALK.nil ?_; try show WP _ _ _ _ _ _)
        show ∃ _, _ ∧ _ ∧ _
        exact ⟨i + 1, by omega, by omega, Shift.sub ([(0, 0), (1, 1)] ++ rnN 2 2 ++ rnN 18 18 ++ rnN 34 34) rfl SubE.a (SubH.cons rfl rfl (ObLe.blk SLes.a) (SubH.cons rfl rfl (ObLe.row rfl) (SubH.cons rfl rfl (ObLe.nest rfl) (SubH.cons rfl rfl (ObLe.nest rfl) (SubH.cons rfl rfl (ObLe.nest (by rw [hx])) SubH.nil)))))⟩
    · ((repeat apply WP.seq); refine WP.exit ?_; show WP _ _ _ _ _ _)
      have hi2 : i = (txN p n).reads.length := by simp at h; omega
      subst hi2
      rw [rdTo_all l6]
      refine WP.shift (Shift.sub (σ' := [(1, .is v1 (.off 0 0))]) (H' := turnH 0 50 51 67 83 ⟨s.store, set2 s.rd n k true, s.wr, s.vals.set n (rdV (mS p) k s.store (txN p n).reads (s.vals.getD n []))⟩) (fr' := 99) ([(0, 0), (50, 1)] ++ rnN 51 2 ++ rnN 67 18 ++ rnN 83 34) rfl SubE.a (SubH.cons rfl rfl (ObLe.blk (SLes.cons SLe.a (SLes.cons (SLe.row rfl (set2_len _ _ _ _).symm) (SLes.cons SLe.a (SLes.cons (SLe.row rfl (List.length_set ..).symm) SLes.nil))))) (SubH.cons rfl rfl (ObLe.row rfl) (SubH.cons rfl rfl (ObLe.nest rfl) (SubH.cons rfl rfl (ObLe.nest rfl) (SubH.cons rfl rfl (ObLe.nest rfl) SubH.nil)))))) ?_
      refine WP.ret ?_
      exact RetOkE.none Try.results63 HSb.a Kept.a
  (refine WP.skip ?_; show WP _ _ _ _ _ _)
  have hkd : kind = 2 := by rcases hs.kd with h1 | h1; (subst h1; simp at h); exact h1
  subst hkd
  have ht2 := turn2 p s n k
  rw [ht2]
  ((repeat apply WP.seq); apply WP.ldraw; refine ALK.n (opn_move (Ev.is rfl)) rfl ?_; (first | refine ALK.n (opn_nilPtr (eB rfl)) rfl ?_ | refine ALK.n (opn_nilOff (eB rfl)) rfl ?_); (first | refine ALK.n (opn_field (o := 2) rfl (eB rfl)) rfl ?_ | refine ALK.n (opn_fieldOff (o := 2) rfl (eB rfl)) rfl ?_); (first | refine ALK.n (opn_load rfl (eB rfl) rfl) rfl ?_ | refine ALK.r OpR.ld rfl ?_); (first | refine ALK.n (opn_field (o := 1) rfl (eB rfl)) rfl ?_ | refine ALK.n (opn_fieldOff (o := 1) rfl (eB rfl)) rfl ?_); (first | refine ALK.n (opn_load rfl (eB rfl) rfl) rfl ?_ | refine ALK.r OpR.ld rfl ?_); refine ALK.n OpN.ix rfl ?_; refine ALK.r (opr_loadNest rfl rfl (eB rfl) rfl e2) rfl ?_; (first | refine ALK.n (opn_field (o := 2) rfl (eB rfl)) rfl ?_ | refine ALK.n (opn_fieldOff (o := 2) rfl (eB rfl)) rfl ?_); (first | refine ALK.n (opn_load rfl (eB rfl) rfl) rfl ?_ | refine ALK.r OpR.ld rfl ?_); refine ALK.n OpN.ix rfl ?_; refine ALK.e (ope_storeNest (z := true) rfl rfl (eB rfl) (eB rfl) (oc_val rfl) rfl e2 rfl (by omega)) rfl rfl ?_; refine ALK.nilD (by kernel_rfl) ?_; try show WP _ _ _ _ _ _)
  ((repeat apply WP.seq); apply WP.ldraw; (first | refine ALK.n (opn_load rfl (eB rfl) rfl) rfl ?_ | refine ALK.r OpR.ld rfl ?_); refine ALK.n (opn_move (Ev.is rfl)) rfl ?_; (first | refine ALK.n (opn_nilPtr (eB rfl)) rfl ?_ | refine ALK.n (opn_nilOff (eB rfl)) rfl ?_); (first | refine ALK.n (opn_field (o := 3) rfl (eB rfl)) rfl ?_ | refine ALK.n (opn_fieldOff (o := 3) rfl (eB rfl)) rfl ?_); (first | refine ALK.n (opn_load rfl (eB rfl) rfl) rfl ?_ | refine ALK.r OpR.ld rfl ?_); (first | refine ALK.n (opn_field (o := 1) rfl (eB rfl)) rfl ?_ | refine ALK.n (opn_fieldOff (o := 1) rfl (eB rfl)) rfl ?_); (first | refine ALK.n (opn_load rfl (eB rfl) rfl) rfl ?_ | refine ALK.r OpR.ld rfl ?_); refine ALK.n OpN.ix rfl ?_; refine ALK.r (opr_loadNest rfl rfl (eB rfl) rfl e3) rfl ?_; refine ALK.r (opr_callLendS (txn_Do_new (txN p n) (s.vals.getD n []) hbt hok l6) (LentS.cons Ev.a .im (LentS.cons (eB rfl) (Lnd.inn rfl e3) LentS.nil))) rfl ?_; refine nM rfl rfl ?_; refine nX rfl rfl rfl ?_; refine nX rfl rfl rfl ?_; refine ALK.a (opa_alloc rfl rfl) rfl ?_; (first | refine ALK.e (ope_store rfl (eB rfl) (eB rfl) Cs.a rfl rfl rfl) rfl rfl ?_ | refine ALK.e (ope_storeRow rfl rfl (eB rfl) (eB rfl) (oc_val rfl) rfl rfl (by assumption)) rfl rfl ?_); refine nA rfl rfl ?_; refine ALK.nilD (by kernel_rfl) ?_; try show WP _ _ _ _ _ _)
  have hle := runSets_len (t := txN p n) (xs := s.vals.getD n [])
  obtain ⟨l, hl⟩ : ∃ l, l = runSets (txN p n) (s.vals.getD n []) := ⟨_, rfl⟩
  rw [← hl] at hle ⊢
  ((repeat apply WP.seq); apply WP.lreg; refine nM rfl rfl ?_; refine ALK.n OpN.ln rfl ?_; refine nM rfl rfl ?_; refine ALK.nil ?_; try show WP _ _ _ _ _ _)
  ((repeat apply WP.seq); apply WP.block)
  refine WP.loop (fun j : Nat => ⟨[(93, .im (IV.int j)), (91, .im (intsV l)), (92, .im (IV.int l.length)), (1, .is v1 (.off 0 0)), (3, .im (IV.ptr (cP p))), (5, .im (IV.ptr [IV.int 2, IV.int (n : Int), IV.int (k : Int)])), (6, .im (IV.ptr (cT (txN p n))))], [(0, stBlk 1 2 18 34 s), (1, rowI (wrTo (mS p) k s.store (txN p n) (s.vals.getD n []) j)), (2, nestB s.rd), (18, nestB (set2 s.wr n k true)), (34, nestI s.vals)], 50⟩) (fun j => j ≤ l.length) (fun j => l.length - j) 0 (Nat.zero_le _)
    (Shift.sub ([(0, 0), (1, 1)] ++ rnN 2 2 ++ rnN 18 18 ++ rnN 34 34) rfl SubE.a (SubH.cons rfl rfl (ObLe.blk SLes.a) (SubH.cons rfl rfl (ObLe.row wrTo_zero.symm) (SubH.cons rfl rfl (ObLe.nest rfl) (SubH.cons rfl rfl (ObLe.nest rfl) (SubH.cons rfl rfl (ObLe.nest rfl) SubH.nil)))))) ?_
  rintro j hj
  ((repeat apply WP.seq); apply WP.lreg; refine ALK.n OpN.cm rfl ?_; refine ALK.nil ?_; try show WP _ _ _ _ _ _)
  ((repeat apply WP.seq); refine WP.cond rfl (fun h => ?_) (fun h => ?_))
  · (refine WP.skip ?_; show WP _ _ _ _ _ _)
    have hjl : j < l.length := by simpa using h
    obtain ⟨z, hz⟩ := get_at hjl
    obtain ⟨q, hq⟩ := get_at (xs := (txN p n).sets) (k := j) (by omega)
    obtain ⟨k0, k8⟩ := hk2 q.key (List.mem_map.2 ⟨q, List.mem_of_getElem? hq, rfl⟩)
    have hzz : ((txN p n).sets.zip (runSets (txN p n) (s.vals.getD n [])))[j]? = some (q, z) := by rw [← hl, List.getElem?_zip_eq_some]; exact ⟨hq, hz⟩
    have hx := wrTo_next (m := mS p) (k := k) (st := s.store) hzz
    have hlen := wrTo_len (m := mS p) (k := k) (j := j) (st := s.store) (xs := s.vals.getD n []) (t := txN p n)
    have hh := here_eq (m := mS p) (k := k) k0
    have hkl : q.key.toNat < (wrTo (mS p) k s.store (txN p n) (s.vals.getD n []) j).length := by omega
    ((repeat apply WP.seq); apply WP.block)
    ((repeat apply WP.seq); apply WP.lreg; refine nM rfl rfl ?_; refine ALK.n OpN.ix rfl ?_; (first | refine ALK.n (opn_load rfl (eB rfl) rfl) rfl ?_ | refine ALK.r OpR.ld rfl ?_); refine nA rfl rfl ?_; refine nA rfl rfl ?_; refine ALK.nil ?_; try show WP _ _ _ _ _ _)
    ((repeat apply WP.seq); apply WP.lreg; (first | refine ALK.n (opn_field (o := 2) rfl (eB rfl)) rfl ?_ | refine ALK.n (opn_fieldOff (o := 2) rfl (eB rfl)) rfl ?_); (first | refine ALK.n (opn_load rfl (eB rfl) rfl) rfl ?_ | refine ALK.r OpR.ld rfl ?_); refine nM rfl rfl ?_; refine ALK.n OpN.ix rfl ?_; (first | refine ALK.n (opn_field (o := 0) rfl (eB rfl)) rfl ?_ | refine ALK.n (opn_fieldOff (o := 0) rfl (eB rfl)) rfl ?_); (first | refine ALK.n (opn_load rfl (eB rfl) rfl) rfl ?_ | refine ALK.r OpR.ld rfl ?_); refine nA rfl rfl ?_; refine ALK.nil ?_; try show WP _ _ _ _ _ _)
    ((repeat apply WP.seq); apply WP.ldraw; refine nM rfl rfl ?_; (first | refine ALK.n (opn_field (o := 0) rfl (eB rfl)) rfl ?_ | refine ALK.n (opn_fieldOff (o := 0) rfl (eB rfl)) rfl ?_); (first | refine ALK.n (opn_load rfl (eB rfl) rfl) rfl ?_ | refine ALK.r OpR.ld rfl ?_); refine ALK.n (opn_rem (eB rfl) (eB rfl) (by omega) (by omega)) rfl ?_; (first | refine ALK.n (opn_field (o := 2) rfl (eB rfl)) rfl ?_ | refine ALK.n (opn_fieldOff (o := 2) rfl (eB rfl)) rfl ?_); (first | refine ALK.n (opn_load rfl (eB rfl) rfl) rfl ?_ | refine ALK.r OpR.ld rfl ?_); refine ALK.n OpN.cm rfl ?_; refine ALK.nilD (by kernel_rfl) ?_; try show WP _ _ _ _ _ _)
    ((repeat apply WP.seq); refine WP.cond rfl (fun h => ?_) (fun h => ?_))
    · rw [hm, ← hh] at h
      simp only [h, if_true] at hx
      ((repeat apply WP.seq); apply WP.lreg; refine ALK.n (opn_move (Ev.is rfl)) rfl ?_; (first | refine ALK.n (opn_nilPtr (eB rfl)) rfl ?_ | refine ALK.n (opn_nilOff (eB rfl)) rfl ?_); (first | refine ALK.n (opn_field (o := 0) rfl (eB rfl)) rfl ?_ | refine ALK.n (opn_fieldOff (o := 0) rfl (eB rfl)) rfl ?_); (first | refine ALK.n (opn_load rfl (eB rfl) rfl) rfl ?_ | refine ALK.r OpR.ld rfl ?_); refine nM rfl rfl ?_; refine nM rfl rfl ?_; refine ALK.n OpN.ix rfl ?_; (first | refine ALK.e (ope_store rfl (eB rfl) (eB rfl) Cs.a rfl rfl rfl) rfl rfl ?_ | refine ALK.e (ope_storeRow rfl rfl (eB rfl) (eB rfl) (oc_val rfl) rfl rfl (by assumption)) rfl rfl ?_); refine ALK.nil ?_; try show WP _ _ _ _ _ _)
      ((repeat apply WP.seq); apply WP.lreg; refine ALK.n OpN.ar rfl ?_; refine nM rfl rfl ?_; refine ALK.nil ?_; try show WP _ _ _ _ _ _)
      show ∃ _, _ ∧ _ ∧ _
      exact ⟨j + 1, by omega, by omega, Shift.sub ([(0, 0), (1, 1)] ++ rnN 2 2 ++ rnN 18 18 ++ rnN 34 34) rfl SubE.a (SubH.cons rfl rfl (ObLe.blk SLes.a) (SubH.cons rfl rfl (ObLe.row hx.symm) (SubH.cons rfl rfl (ObLe.nest rfl) (SubH.cons rfl rfl (ObLe.nest rfl) (SubH.cons rfl rfl (ObLe.nest rfl) SubH.nil)))))⟩
    · rw [hm, ← hh] at h
      simp only [h, Bool.false_eq_true, if_false] at hx
      (refine WP.skip ?_; show WP _ _ _ _ _ _)
      ((repeat apply WP.seq); apply WP.lreg; refine ALK.n OpN.ar rfl ?_; refine nM rfl rfl ?_; refine ALK.nil ?_; try show WP _ _ _ _ _ _)
      show ∃ _, _ ∧ _ ∧ _
      exact ⟨j + 1, by omega, by omega, Shift.sub ([(0, 0), (1, 1)] ++ rnN 2 2 ++ rnN 18 18 ++ rnN 34 34) rfl SubE.a (SubH.cons rfl rfl (ObLe.blk SLes.a) (SubH.cons rfl rfl (ObLe.row hx.symm) (SubH.cons rfl rfl (ObLe.nest rfl) (SubH.cons rfl rfl (ObLe.nest rfl) (SubH.cons rfl rfl (ObLe.nest rfl) SubH.nil)))))⟩
  · have hjl : ((txN p n).sets.zip (runSets (txN p n) (s.vals.getD n []))).length ≤ j := by simp at h; rw [List.length_zip, ← hl]; omega
    (repeat apply WP.seq)
    refine WP.shift (Shift.sub (σ' := [(1, .is v1 (.off 0 0))]) (H' := turnH 0 50 51 67 83 ⟨putZ s.store (wrP (mS p) k (txN p n) (s.vals.getD n [])), s.rd, set2 s.wr n k true, s.vals⟩) (fr' := 99) ([(0, 0), (50, 1)] ++ rnN 51 2 ++ rnN 67 18 ++ rnN 83 34) rfl SubE.a (SubH.cons rfl rfl (ObLe.blk (SLes.cons (SLe.row rfl (putZ_length _ _).symm) (SLes.cons SLe.a (SLes.cons (SLe.row rfl (set2_len _ _ _ _).symm) (SLes.cons SLe.a SLes.nil))))) (SubH.cons rfl rfl (ObLe.row (wrTo_all hjl)) (SubH.cons rfl rfl (ObLe.nest rfl) (SubH.cons rfl rfl (ObLe.nest rfl) (SubH.cons rfl rfl (ObLe.nest rfl) SubH.nil)))))) ?_
    refine WP.exit ?_
    exact RetOkE.none Try.results63 HSb.a Kept.a
end Go.Proofs.Ytjgmbgfcffnanac
