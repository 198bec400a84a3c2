/- States of one's own. Package steps: Turn, a state of one's own by a step that may be. -/
import Derived.Test.YtjgmbgfcffnanaaGreatDoorZ22
set_option maxRecDepth 100000
set_option maxHeartbeats 4000000
namespace Go.Proofs.YtjgmbgfcffnanaaGreatDoor
open Go.RowKit
theorem boolInfo : (Tryz.prog.info? 4).map (fun i => (i.zero,i.size,i.bytes)) = some (some (.bool false),1,1) := by kernel_rfl
def encBv (b : Bool) : List Value := [.bool b]
theorem encBv_len (x : Bool) : (encBv x).length = 1 := rfl
theorem oneBv (x : Bool) : ∀ u ∈ encBv x,u.oneCell' = true := by simp [encBv,Value.oneCell']
theorem slices_Clone_bool (A n c) (xs : List Bool) (w : World) (h : Rd 1 encBv w A n xs) (hn : n ≤ 8796093022208) :
 Calls Tryz.prog 87 #[.slice A n c] w fun e w' => ∃ v,e = .returned v ∧ Own 4 1 encBv w' w.heap.size v xs ∧ Below w.heap.size w w' := by
 obtain ⟨i0,hi0,hz0,hz1,hz2⟩ := info_parts boolInfo
 have hq : ∀ (w : World) (a : Option Addr) (n c n' c' : Nat),(binOp .eql 101 (.slice a n c) (.slice none n' c')).run Tryz.prog w = .ok (.bool a.isNone) w := fun w a n c n' c' => Lib.run_eql_slice_nil w _ _ a n c n' c' Tryz.underlying101
 rcases A with _ | ad
 ·have hxs : xs = [] := by
   rcases h.2 with rfl | ⟨b,o,hA,_⟩
   ·rfl
   ·cases hA
  subst hxs
  go_enter Tryz.func87,Tryz.ntmps87
  go_wp2
  go_ret
  exact ⟨_,rfl,Own.nil,Below.refl _ _⟩
 ·go_enter Tryz.func87,Tryz.ntmps87
  go_wp2_with (at_builtin;refine yz rfl _ _ _ rfl w.heap.size 4 i0 (.bool false) 1 1 Tryz.underlying101 hi0 hz0 hz1 hz2 rfl (by decide) encBv_len oneBv _ [] rfl (Own.empty w rfl (Nat.le_refl _)) (some ad) n c xs rfl (h.alloc _) (by simp only [List.length_nil];unfold maxLen;omega) (by simp only [List.length_nil];omega) (by simp) ?_;intro v2 w2 hv2 hg2;have hb2 := (Own.empty (α := Bool) (E := 4) (k := 1) (enc := encBv) w rfl (Nat.le_refl _)).frame (Bel.alloc (Below.refl _ _) _) (Nat.le_refl _) hg2;rw [List.nil_append] at hv2)
  go_ret
  exact ⟨_,rfl,hv2,hb2⟩
theorem CloneB_row (xs : List Bool) (hn : xs.length ≤ 8796093022208) : FnRow CC 87 [boolsV xs] 4 1 cB xs := by
 refine ⟨⟨⟨_,Tryz.func87,rfl,by kernel_rfl⟩,fun _ => rfl⟩,fun μ w vs hvs ha => ?_⟩
 obtain ⟨a,vs1,rfl,h1,rfl⟩ := hvs
 obtain ⟨A,c,rfl,_,_,hrd⟩ := qp ha (enc' := encBv) (fun _ => rfl) (fun _ => by simp [encBv]) h1
 refine (slices_Clone_bool A xs.length c xs w hrd hn).mono ?_
 rintro e w' ⟨v,rfl,ho,hb⟩
 have hiv : ∀ xs : List Bool,IVs μ (xs.flatMap cB) (xs.flatMap encBv) := fun xs => by
  induction xs with
  | nil => rfl
  | cons x xs ih => exact ⟨_,_,rfl,rfl,ih⟩
 refine ⟨v,μ,xs.flatMap encBv,rfl,ho,hiv xs,fun u hu => ?_,fun g hg => ?_,Stp.of_below ha hb⟩
 ·obtain ⟨x,_,hx⟩ := List.mem_flatMap.1 hu
  simp [encBv] at hx;subst hx;rfl
 ·cases e : μ g with
  | none => rfl
  | some c =>
   have h1 := ha.lt (b := g) (by rw [e];simp)
   have h2 := (World.ownsRow.lt ho g hg).1
   omega
theorem yE {α : Type} {l : List (List α)} {n : Nat} (h : n < l.length) : l.take (n + 1) = l.take n ++ [l.getD n []] := yg (o9 [] h)
abbrev nestB (l : List (List Bool)) : HObj := .nest 101 4 1 cB l
abbrev nestI (l : List (List Int)) : HObj := .nest 34 3 1 cI l
abbrev rowI (l : List Int) : HObj := .row 3 1 cI l
abbrev ownSV (s : StT) (a b c d : Nat) : SV := .agg [.row a s.store.length,.row b s.rd.length,.row c s.wr.length,.row d s.vals.length]
abbrev ownH (s : StT) (a b c d : Nat) : List Ent := [(a,rowI s.store),(b,nestB s.rd),(c,nestB s.wr),(d,nestI s.vals)]
theorem Own_new (s : StT) (h1 : s.store.length ≤ 1000) (h2 : s.rd.length ≤ 8) (h3 : s.wr.length = s.rd.length) (h4 : s.vals.length = s.rd.length) (h5 : ∀ l ∈ s.rd,l.length ≤ 1000) (h6 : ∀ l ∈ s.wr,l.length ≤ 1000) (h7 : ∀ l ∈ s.vals,l.length ≤ 1000) :
 FnE CC 46 0 [.im (stV s)] [] (ownSV s 0 1 17 33) (ownH s 0 1 17 33) 49 [] := by
 refine FnE.of_wp _ [] Tryz.func46 rfl (by kernel_rfl) Tryz.ntmps46 rfl rfl rfl rfl rfl rfl rfl rfl rfl ?_
 intro F vs hD hvs
 obtain ⟨v0,rfl⟩ := len1 hvs
 show WP _ _ _ _ _ ⟨[(0,.im (stV s))],[],0⟩
 (refine zR ?_;(iterate 2 refine sA ?_);refine zN ?_)
 (refine zR ?_;refine fd 0 ?_;refine sA ?_;refine ALK.a (yp (qF s.store (by omega)) (Evs.cons Ev.a Evs.nil)) rfl ?_;(iterate 3 refine sA ?_);refine zN ?_)
 refine WP.shift (Shift.nest0In 2 1 101 4 1 cB (fun _ => rfl) rfl rfl rfl) ?_
 refine WP.shift (Shift.nest0In 2 2 101 4 1 cB (fun _ => rfl) rfl rfl rfl) ?_
 refine WP.shift (Shift.nest0In 2 3 34 3 1 cI (fun _ => rfl) rfl rfl rfl) ?_
 (refine zR ?_;refine fd 1 ?_;(iterate 3 refine sA ?_);refine zN ?_)
 refine zB ?_
 refine WP.loop (fun n : Nat => ⟨[(12,.im (IV.int n)),(10,.im (bbV s.rd)),(11,.im (IV.int s.rd.length)),(1,.im (IV.ptr (cSt s))),(2,.off 0 0),(3,.off 2 0)],[(0,.blk 38 [.im (IV.val (.slice none 0 0)),.im (IV.val (.slice none 0 0)),.im (IV.val (.slice none 0 0)),.im (IV.val (.slice none 0 0))]),(1,rowI s.store),(2,.blk 38 [.row 1 s.store.length,.row 3 n,.row 19 n,.row 35 n]),(3,nestB (s.rd.take n)),(19,nestB (s.wr.take n)),(35,nestI (s.vals.take n))],51⟩) (fun n => n ≤ s.rd.length) (fun n => s.rd.length - n) 0 (Nat.zero_le _)
  (Shift.sub ([(0,0),(1,1),(2,2)] ++ rnN 3 3 ++ rnN 19 19 ++ rnN 35 35) rfl SubE.a (SubH.cons rfl rfl (ObLe.blk SLes.a) (SubH.cons rfl rfl (ObLe.row rfl) (SubH.cons rfl rfl (ObLe.blk SLes.a) (SubH.cons rfl rfl (ObLe.nest rfl) (SubH.cons rfl rfl (ObLe.nest rfl) (SubH.cons rfl rfl (ObLe.nest rfl) SubH.nil))))))) ?_
 rintro n hn
 (refine zR ?_;refine sA ?_;refine zN ?_)
 refine zC (fun h => ?_) (fun h => ?_)
 ·refine zS ?_
  have hlt : n < s.rd.length := by simpa using h
  have e1 : s.rd[n]? = some (s.rd.getD n []) := o9 [] hlt
  have e2 : s.wr[n]? = some (s.wr.getD n []) := o9 [] (by omega)
  have e3 : s.vals[n]? = some (s.vals.getD n []) := o9 [] (by omega)
  have b1 := h5 _ (List.mem_of_getElem? e1)
  have b2 := h6 _ (List.mem_of_getElem? e2)
  have b3 := h7 _ (List.mem_of_getElem? e3)
  refine zB ?_
  (refine zR ?_;(iterate 2 refine sA ?_);refine zN ?_)
  (refine zW ?_;refine fd 1 ?_;refine sA ?_;refine fd 1 ?_;(iterate 4 refine sA ?_);refine ALK.a (yp (CloneB_row (s.rd.getD n []) (by omega)) (Evs.cons Ev.a Evs.nil)) rfl ?_;refine ALK.n (od rfl rfl rfl rfl rfl rfl (Pc rfl (eB rfl) Cs.a rfl rfl Parts.nil)) rfl ?_;refine ALK.e (oq rfl rfl rfl rfl (eB rfl) (eB rfl) rfl rfl rfl (by rw [List.length_take];omega)) rfl rfl ?_;refine fd 1 ?_;refine sA ?_;refine zD ?_)
  (refine zW ?_;refine fd 2 ?_;refine sA ?_;refine fd 2 ?_;(iterate 4 refine sA ?_);refine ALK.a (yp (CloneB_row (s.wr.getD n []) (by omega)) (Evs.cons Ev.a Evs.nil)) rfl ?_;refine ALK.n (od rfl rfl rfl rfl rfl rfl (Pc rfl (eB rfl) Cs.a rfl rfl Parts.nil)) rfl ?_;refine ALK.e (oq rfl rfl rfl rfl (eB rfl) (eB rfl) rfl rfl rfl (by rw [List.length_take];omega)) rfl rfl ?_;refine fd 2 ?_;refine sA ?_;refine zD ?_)
  (refine zW ?_;refine fd 3 ?_;refine sA ?_;refine fd 3 ?_;(iterate 4 refine sA ?_);refine ALK.a (yp (qF (s.vals.getD n []) (by omega)) (Evs.cons Ev.a Evs.nil)) rfl ?_;refine ALK.n (od rfl rfl rfl rfl rfl rfl (Pc rfl (eB rfl) Cs.a rfl rfl Parts.nil)) rfl ?_;refine ALK.e (oq rfl rfl rfl rfl (eB rfl) (eB rfl) rfl rfl rfl (by rw [List.length_take];omega)) rfl rfl ?_;refine fd 3 ?_;refine sA ?_;refine zD ?_)
  (refine zR ?_;(iterate 2 refine sA ?_);refine zN ?_)
  show ∃ _,_ ∧ _ ∧ _
  exact ⟨n + 1,by omega,by omega,Shift.sub ([(0,0),(1,1),(2,2)] ++ rnN 3 52 ++ rnN 19 69 ++ rnN 35 86) rfl SubE.a (SubH.cons rfl rfl (ObLe.blk SLes.a) (SubH.cons rfl rfl (ObLe.row rfl) (SubH.cons rfl rfl (ObLe.blk (SLes.cons SLe.a (SLes.cons (SLe.row rfl (by rw [List.length_take];omega)) (SLes.cons (SLe.row rfl (by rw [List.length_take];omega)) (SLes.cons (SLe.row rfl (by rw [List.length_take];omega)) SLes.nil))))) (SubH.cons rfl rfl (ObLe.nest (yE hlt).symm) (SubH.cons rfl rfl (ObLe.nest (yE (by omega)).symm) (SubH.cons rfl rfl (ObLe.nest (yE (by omega)).symm) SubH.nil))))))⟩
 ·refine zE ?_
  have hn2 : n = s.rd.length := by simp at h;omega
  subst hn2
  (refine zR ?_;(iterate 2 refine sA ?_);refine zN ?_)
  refine WP.shift (Shift.sub (σ' := [(2,.off 49 0)]) (H' := (49,.blk 38 [.row 0 s.store.length,.row 1 s.rd.length,.row 17 s.wr.length,.row 33 s.vals.length]) :: ownH s 0 1 17 33) (fr' := 50) ([(0,1),(49,0)] ++ rnN 1 3 ++ rnN 17 19 ++ rnN 33 35) rfl SubE.a (SubH.cons rfl rfl (ObLe.blk (SLes.cons SLe.a (SLes.cons SLe.a (SLes.cons (SLe.row rfl h3.symm) (SLes.cons (SLe.row rfl h4.symm) SLes.nil))))) (SubH.cons rfl rfl (ObLe.row rfl) (SubH.cons rfl rfl (ObLe.nest List.take_length) (SubH.cons rfl rfl (ObLe.nest (List.take_of_length_le (by omega))) (SubH.cons rfl rfl (ObLe.nest (List.take_of_length_le (by omega))) SubH.nil)))))) ?_
  refine WP.ret ?_
  exact RetOkE.sv1 Tryz.results46 (ResSv.cell rfl rfl rfl rfl) HSb.a Kept.a
theorem txn_Do_new (t : Txn) (xs : List Int) (hb : TxnB t) (hok : checkTxn t = 0) (hx : xs.length = t.reads.length) : FnN CC 90 [txnV t,intsV xs] (IV.tup [resV ⟨runDone t xs,xs⟩,intsV (runSets t xs)]) :=
 ⟨⟨_,Tryz.func90,rfl,by kernel_rfl⟩,fun μ w vs ⟨v0,_,e0,h0,v1,_,e1,h1,e2⟩ ha => by
  subst e0 e1 e2
  obtain ⟨ra,rc,ga,gc,sa,sc,rfl,h⟩ := txn_at ha hb h0
  obtain ⟨xa,xc,rfl,_,_,hr⟩ := qp ha qZ (fun _ => by simp [encI]) h1
  rw [hx] at hr
  rw [hx]
  refine (txn_Do _ _ _ _ _ _ _ _ _ t _ _ xs w h hr hok).mono ?_
  rintro e w' ⟨v1,v2,rfl,o1,o2,hb⟩
  obtain ⟨μ',k1,k2,k3,k4⟩ := q8 (mem0_agr w') qZ oy oneI o1
  obtain ⟨ν,m1,m2,m3,m4⟩ := q8 k3 qZ oy oneI o2
  have ho : v1.oneCell' = true := by obtain ⟨A,c,e,_⟩ := k4;rw [e];rfl
  refine ⟨_,ν,rfl,⟨[.agg #[.bool _,v1],v2],rfl,_,_,rfl,⟨[.bool _,v1],rfl,⟨_,_,rfl,rfl,_,_,rfl,IV.mono _ m1 k4,rfl⟩,?_⟩,_,_,rfl,m4,rfl⟩,fun b hb => (m2 b hb).elim (fun h => (k2 b h).elim (fun h => absurd rfl h) id) id,m3,hb⟩
  intro u hu
  simp only [List.mem_cons,List.not_mem_nil,or_false] at hu
  rcases hu with rfl | rfl
  ·rfl
  ·exact ho⟩
def rdTo (m k : Nat) (st keys old : List Int) (i : Nat) : List Int := rdV m k st (keys.take i) (old.take i) ++ old.drop i
theorem rdTo_len {m k i : Nat} {st keys old : List Int} (h : old.length = keys.length) : (rdTo m k st keys old i).length = keys.length := by
 unfold rdTo rdV
 rw [List.length_append,List.length_map,List.length_zip,List.length_take,List.length_take,List.length_drop];omega
theorem rdTo_next {m k i : Nat} {st keys old : List Int} {key : Int} (hl : old.length = keys.length) (h : keys[i]? = some key) : rdTo m k st keys old (i + 1) = if hereB m k key then (rdTo m k st keys old i).set i (rdF st key) else rdTo m k st keys old i := by
 have hi := (List.getElem?_eq_some_iff.1 h).1
 have ho : old[i]? = some (old.getD i 0) := o9 0 (by omega)
 have hd : old.drop i = old.getD i 0 :: old.drop (i + 1) := by
  rw [List.drop_eq_getElem_cons (by omega)]
  congr 1
  rw [List.getElem?_eq_getElem (by omega)] at ho
  exact Option.some.inj ho
 have hx : (rdV m k st (keys.take i) (old.take i)).length = i := by
  unfold rdV;rw [List.length_map,List.length_zip,List.length_take,List.length_take];omega
 unfold rdTo
 rw [yg h,yg ho]
 have hz : (keys.take i ++ [key]).zip (old.take i ++ [old.getD i 0]) = (keys.take i).zip (old.take i) ++ [(key,old.getD i 0)] := by
  rw [List.zip_append (by rw [List.length_take,List.length_take];omega)];rfl
 have hv : rdV m k st (keys.take i ++ [key]) (old.take i ++ [old.getD i 0]) = rdV m k st (keys.take i) (old.take i) ++ [if hereB m k key then rdF st key else old.getD i 0] := by
  unfold rdV;rw [hz,List.map_append];rfl
 rw [hv,hd]
 by_cases e : hereB m k key = true
 ·rw [if_pos e,if_pos e,List.set_append_right _ _ (by omega),hx,Nat.sub_self]
  simp
 ·rw [if_neg e,if_neg e];simp
theorem rdTo_zero {m k : Nat} {st keys old : List Int} : rdTo m k st keys old 0 = old := by simp [rdTo,rdV]
theorem rdTo_all {m k : Nat} {st keys old : List Int} (h : old.length = keys.length) : rdTo m k st keys old keys.length = rdV m k st keys old := by
 unfold rdTo
 rw [List.take_length,← h,List.take_length,List.drop_length,List.append_nil]
def wrTo (m k : Nat) (st : List Int) (t : Txn) (xs : List Int) (j : Nat) : List Int := putZ st (((t.sets.zip (runSets t xs)).take j).filter fun q => hereB m k q.1.key)
theorem wrTo_len {m k j : Nat} {st xs : List Int} {t : Txn} : (wrTo m k st t xs j).length = st.length := yN _ _
theorem wrTo_next {m k j : Nat} {st xs : List Int} {t : Txn} {q : SetT × Int} (h : (t.sets.zip (runSets t xs))[j]? = some q) : wrTo m k st t xs (j + 1) = if hereB m k q.1.key then (wrTo m k st t xs j).set q.1.key.toNat q.2 else wrTo m k st t xs j := by
 unfold wrTo
 rw [yg h,List.filter_append]
 by_cases e : hereB m k q.1.key = true
 ·rw [if_pos e,show List.filter (fun q : SetT × Int => hereB m k q.1.key) [q] = [q] by simp [List.filter,e]]
  unfold putZ
  rw [List.foldl_append];rfl
 ·rw [if_neg e,show List.filter (fun q : SetT × Int => hereB m k q.1.key) [q] = [] by simp [List.filter,e],List.append_nil]
theorem wrTo_zero {m k : Nat} {st xs : List Int} {t : Txn} : wrTo m k st t xs 0 = st := by simp [wrTo,putZ]
theorem wrTo_all {m k j : Nat} {st xs : List Int} {t : Txn} (h : (t.sets.zip (runSets t xs)).length ≤ j) : wrTo m k st t xs j = putZ st (wrP m k t xs) := by unfold wrTo wrP;rw [List.take_of_length_le h]
theorem vb {m k : Nat} {key : Int} (h0 : 0 ≤ key) : hereB m k key = (key % (m : Int) == (k : Int)) := by unfold hereB;rw [Int.tmod_eq_emod_of_nonneg h0];rfl
theorem set_at {α : Type} {l : List α} {n : Nat} {x : α} (h : n < l.length) : (l.set n x)[n]? = some x := by rw [List.getElem?_set_self h]
theorem set_same {α : Type} {l : List α} {n : Nat} {x : α} (h : l[n]? = some x) : l.set n x = l := by
 apply List.ext_getElem?
 intro j
 rw [List.getElem?_set]
 split
 ·rename_i e;subst e
  have := (List.getElem?_eq_some_iff.1 h).1
  rw [if_pos this,h]
 ·rfl
abbrev stBlk (a b c d : Nat) (s : StT) : HObj := .blk 38 [.row a s.store.length,.row b s.rd.length,.row c s.wr.length,.row d s.vals.length]
abbrev turnH (z a b c d : Nat) (s : StT) : List Ent := (z,stBlk a b c d s) :: ownH s a b c d
theorem Turn_new (p : Plan) (s : StT) (kind : Int) (n k : Nat) (v : Valid p s) (hB : TxsB p.txns) (hs : Step p s kind n k) :
 FnE CC 88 50 [.im (planV p),.off 0 0,.im (IV.agg [IV.int kind,IV.int (n : Int),IV.int (k : Int)])] (turnH 0 1 2 18 34 s) (.im (IV.tup [])) (turnH 0 50 51 67 83 (turnS p s kind n k)) 99 [0] := by
 obtain ⟨hm,hm1,hm4,hn8,hall⟩ := oO v.plan
 obtain ⟨ht,hok⟩ := hall n hs.hn
 have hbt : TxnB (txN p n) := hB _ (List.mem_of_getElem? ht)
 obtain ⟨hk1,hk2⟩ := yj hok
 obtain ⟨hz1,hz2,hz3,hz4⟩ := (y6 hok).1
 have hkm := hs.hk
 have hnn := hs.hn
 have hnT : nT p = p.txns.length := rfl
 have l1 := v.rdl
 have l2 := v.wrl
 have l3 := v.vall
 have l4 := v.rdr n hnn
 have l5 := v.wrr n hnn
 have l6 := v.valr n hnn
 have l7 := v.store
 have e1 : s.rd[n]? = some (s.rd.getD n []) := o9 [] (by omega)
 have e2 : s.wr[n]? = some (s.wr.getD n []) := o9 [] (by omega)
 have e3 : s.vals[n]? = some (s.vals.getD n []) := o9 [] (by omega)
 refine FnE.of_wp _ [(0,1)] Tryz.func88 rfl (by kernel_rfl) Tryz.ntmps88 rfl rfl rfl rfl rfl rfl rfl rfl rfl ?_
 intro F vs hD hvs
 obtain ⟨v0,v1,v2,rfl⟩ := len3 hvs
 show WP _ _ _ _ _ ⟨[(0,.im (planV p)),(1,.is v1 (.off 0 0)),(2,.im (IV.agg [IV.int kind,IV.int (n : Int),IV.int (k : Int)]))],turnH 0 1 2 18 34 s,50⟩
 (refine zR ?_;(iterate 2 refine sA ?_);refine zN ?_)
 (refine zR ?_;refine fd 1 ?_;refine sA ?_;refine fd 1 ?_;(iterate 5 refine sA ?_);refine zN ?_)
 refine WP.shift (Shift.frzBlk 6 rfl rfl rfl) ?_
 (refine zR ?_;refine fd 0 ?_;(iterate 2 refine sA ?_);refine zN ?_)
 refine zC (fun h => ?_) (fun h => ?_)
 ·have hkd : kind = 1 := by simpa using h
  subst hkd
  have ht1 := turn1 p s n k
  rw [ht1]
  (refine zW ?_;(iterate 2 refine sI ?_);refine fI 1 ?_;refine sI ?_;refine fI 1 ?_;(iterate 2 refine sI ?_);refine ALK.r (oV rfl rfl (eB rfl) rfl e1) rfl ?_;refine fI 2 ?_;(iterate 2 refine sI ?_);refine ALK.e (y5 (z := true) rfl rfl (eB rfl) (eB rfl) (yG rfl) rfl e1 rfl (by omega)) rfl rfl ?_;refine zD ?_)
  (refine zR ?_;refine fd 0 ?_;(iterate 3 refine sA ?_);refine zN ?_)
  refine zB ?_
  refine WP.loop (fun i : Nat => ⟨[(37,.im (IV.int i)),(35,.im (intsV (txN p n).reads)),(36,.im (IV.int (txN p n).reads.length)),(1,.is v1 (.off 0 0)),(3,.im (IV.ptr (cP p))),(5,.im (IV.ptr [IV.int 1,IV.int (n : Int),IV.int (k : Int)])),(6,.im (IV.ptr (cT (txN p n))))],[(0,stBlk 1 2 18 34 s),(1,rowI s.store),(2,nestB (set2 s.rd n k true)),(18,nestB s.wr),(34,nestI (s.vals.set n (rdTo (mS p) k s.store (txN p n).reads (s.vals.getD n []) i)))],50⟩) (fun i => i ≤ (txN p n).reads.length) (fun i => (txN p n).reads.length - i) 0 (Nat.zero_le _)
   (Shift.sub ([(0,0),(1,1)] ++ rnN 2 2 ++ rnN 18 18 ++ rnN 34 34) rfl SubE.a (SubH.cons rfl rfl (ObLe.blk SLes.a) (SubH.cons rfl rfl (ObLe.row rfl) (SubH.cons rfl rfl (ObLe.nest rfl) (SubH.cons rfl rfl (ObLe.nest rfl) (SubH.cons rfl rfl (ObLe.nest (by rw [rdTo_zero,set_same e3])) SubH.nil)))))) ?_
  rintro i hi
  (refine zR ?_;refine sA ?_;refine zN ?_)
  refine zC (fun h => ?_) (fun h => ?_)
  ·refine zS ?_
   have hlt : i < (txN p n).reads.length := by simpa using h
   obtain ⟨key,hkey⟩ := oc hlt
   obtain ⟨k0,k8⟩ := hk1 key (List.mem_of_getElem? hkey)
   have hx := rdTo_next (m := mS p) (k := k) (st := s.store) (old := s.vals.getD n []) l6 hkey
   have hlen := rdTo_len (m := mS p) (k := k) (i := i) (st := s.store) l6
   have hh := vb (m := mS p) (k := k) k0
   have e4 : (s.vals.set n (rdTo (mS p) k s.store (txN p n).reads (s.vals.getD n []) i))[n]? = some (rdTo (mS p) k s.store (txN p n).reads (s.vals.getD n []) i) := set_at (by omega)
   have e5 := rdF_at (st := s.store) k0 (by omega)
   refine zB ?_
   (refine zR ?_;(iterate 5 refine sA ?_);refine zN ?_)
   (refine zW ?_;refine sA ?_;refine fd 0 ?_;refine sA ?_;refine ALK.n (uj (eB rfl) (eB rfl) (by omega) (by omega)) rfl ?_;refine fd 2 ?_;(iterate 2 refine sA ?_);refine zD ?_)
   refine zC (fun h => ?_) (fun h => ?_)
   ·rw [hm,← hh] at h
    rw [if_pos h] at hx
    (refine zW ?_;(iterate 2 refine sI ?_);refine fI 3 ?_;refine sI ?_;refine fI 1 ?_;(iterate 2 refine sI ?_);refine ALK.r (oV rfl rfl (eB rfl) rfl e4) rfl ?_;(iterate 3 refine sI ?_);refine fI 0 ?_;(iterate 3 refine sI ?_);refine ALK.r (oR rfl rfl (eB rfl) rfl e5 rfl) rfl ?_;refine sI ?_;refine ALK.e (y5 (z := rdF s.store key) rfl rfl (eB rfl) (eB rfl) (yG rfl) rfl e4 rfl (by omega)) rfl rfl ?_;refine zD ?_)
    (refine zR ?_;(iterate 2 refine sA ?_);refine zN ?_)
    show ∃ _,_ ∧ _ ∧ _
    exact ⟨i + 1,by omega,by omega,Shift.sub ([(0,0),(1,1)] ++ rnN 2 2 ++ rnN 18 18 ++ rnN 34 34) rfl SubE.a (SubH.cons rfl rfl (ObLe.blk SLes.a) (SubH.cons rfl rfl (ObLe.row rfl) (SubH.cons rfl rfl (ObLe.nest rfl) (SubH.cons rfl rfl (ObLe.nest rfl) (SubH.cons rfl rfl (ObLe.nest (by rw [hx];exact List.set_set ..)) SubH.nil)))))⟩
   ·rw [hm,← hh] at h
    rw [if_neg (by rw [h];simp)] at hx
    refine zS ?_
    (refine zR ?_;(iterate 2 refine sA ?_);refine zN ?_)
    show ∃ _,_ ∧ _ ∧ _
    exact ⟨i + 1,by omega,by omega,Shift.sub ([(0,0),(1,1)] ++ rnN 2 2 ++ rnN 18 18 ++ rnN 34 34) rfl SubE.a (SubH.cons rfl rfl (ObLe.blk SLes.a) (SubH.cons rfl rfl (ObLe.row rfl) (SubH.cons rfl rfl (ObLe.nest rfl) (SubH.cons rfl rfl (ObLe.nest rfl) (SubH.cons rfl rfl (ObLe.nest (by rw [hx])) SubH.nil)))))⟩
  ·refine zE ?_
   have hi2 : i = (txN p n).reads.length := by simp at h;omega
   subst hi2
   rw [rdTo_all l6]
   refine WP.shift (Shift.sub (σ' := [(1,.is v1 (.off 0 0))]) (H' := turnH 0 50 51 67 83 ⟨s.store,set2 s.rd n k true,s.wr,s.vals.set n (rdV (mS p) k s.store (txN p n).reads (s.vals.getD n []))⟩) (fr' := 99) ([(0,0),(50,1)] ++ rnN 51 2 ++ rnN 67 18 ++ rnN 83 34) rfl SubE.a (SubH.cons rfl rfl (ObLe.blk (SLes.cons SLe.a (SLes.cons (SLe.row rfl (qJ _ _ _ _).symm) (SLes.cons SLe.a (SLes.cons (SLe.row rfl (List.length_set ..).symm) SLes.nil))))) (SubH.cons rfl rfl (ObLe.row rfl) (SubH.cons rfl rfl (ObLe.nest rfl) (SubH.cons rfl rfl (ObLe.nest rfl) (SubH.cons rfl rfl (ObLe.nest rfl) SubH.nil)))))) ?_
   refine WP.ret ?_
   exact RetOkE.none Tryz.results88 HSb.a Kept.a
 refine zS ?_
 have hkd : kind = 2 := by rcases hs.kd with h1 | h1;(subst h1;simp at h);exact h1
 subst hkd
 have ht2 := turn2 p s n k
 rw [ht2]
 (refine zW ?_;(iterate 2 refine sI ?_);refine fI 2 ?_;refine sI ?_;refine fI 1 ?_;(iterate 2 refine sI ?_);refine ALK.r (oV rfl rfl (eB rfl) rfl e2) rfl ?_;refine fI 2 ?_;(iterate 2 refine sI ?_);refine ALK.e (y5 (z := true) rfl rfl (eB rfl) (eB rfl) (yG rfl) rfl e2 rfl (by omega)) rfl rfl ?_;refine zD ?_)
 (refine zW ?_;(iterate 3 refine sI ?_);refine fI 3 ?_;refine sI ?_;refine fI 1 ?_;(iterate 2 refine sI ?_);refine ALK.r (oV rfl rfl (eB rfl) rfl e3) rfl ?_;refine ALK.r (uD (txn_Do_new (txN p n) (s.vals.getD n []) hbt hok l6) (LentS.cons Ev.a .im (LentS.cons (eB rfl) (Lnd.inn rfl e3) LentS.nil))) rfl ?_;(iterate 6 refine sI ?_);refine zD ?_)
 have hle := uL (t := txN p n) (xs := s.vals.getD n [])
 obtain ⟨l,hl⟩ : ∃ l,l = runSets (txN p n) (s.vals.getD n []) := ⟨_,rfl⟩
 rw [← hl] at hle ⊢
 (refine zR ?_;(iterate 3 refine sA ?_);refine zN ?_)
 refine zB ?_
 refine WP.loop (fun j : Nat => ⟨[(93,.im (IV.int j)),(91,.im (intsV l)),(92,.im (IV.int l.length)),(1,.is v1 (.off 0 0)),(3,.im (IV.ptr (cP p))),(5,.im (IV.ptr [IV.int 2,IV.int (n : Int),IV.int (k : Int)])),(6,.im (IV.ptr (cT (txN p n))))],[(0,stBlk 1 2 18 34 s),(1,rowI (wrTo (mS p) k s.store (txN p n) (s.vals.getD n []) j)),(2,nestB s.rd),(18,nestB (set2 s.wr n k true)),(34,nestI s.vals)],50⟩) (fun j => j ≤ l.length) (fun j => l.length - j) 0 (Nat.zero_le _)
  (Shift.sub ([(0,0),(1,1)] ++ rnN 2 2 ++ rnN 18 18 ++ rnN 34 34) rfl SubE.a (SubH.cons rfl rfl (ObLe.blk SLes.a) (SubH.cons rfl rfl (ObLe.row wrTo_zero.symm) (SubH.cons rfl rfl (ObLe.nest rfl) (SubH.cons rfl rfl (ObLe.nest rfl) (SubH.cons rfl rfl (ObLe.nest rfl) SubH.nil)))))) ?_
 rintro j hj
 (refine zR ?_;refine sA ?_;refine zN ?_)
 refine zC (fun h => ?_) (fun h => ?_)
 ·refine zS ?_
  have hjl : j < l.length := by simpa using h
  obtain ⟨z,hz⟩ := oc hjl
  obtain ⟨q,hq⟩ := oc (xs := (txN p n).sets) (k := j) (by omega)
  obtain ⟨k0,k8⟩ := hk2 q.key (List.mem_map.2 ⟨q,List.mem_of_getElem? hq,rfl⟩)
  have hzz : ((txN p n).sets.zip (runSets (txN p n) (s.vals.getD n [])))[j]? = some (q,z) := by rw [← hl,List.getElem?_zip_eq_some];exact ⟨hq,hz⟩
  have hx := wrTo_next (m := mS p) (k := k) (st := s.store) hzz
  have hlen := wrTo_len (m := mS p) (k := k) (j := j) (st := s.store) (xs := s.vals.getD n []) (t := txN p n)
  have hh := vb (m := mS p) (k := k) k0
  have hkl : q.key.toNat < (wrTo (mS p) k s.store (txN p n) (s.vals.getD n []) j).length := by omega
  refine zB ?_
  (refine zR ?_;(iterate 5 refine sA ?_);refine zN ?_)
  (refine zR ?_;refine fd 2 ?_;(iterate 3 refine sA ?_);refine fd 0 ?_;(iterate 2 refine sA ?_);refine zN ?_)
  (refine zW ?_;refine sA ?_;refine fd 0 ?_;refine sA ?_;refine ALK.n (uj (eB rfl) (eB rfl) (by omega) (by omega)) rfl ?_;refine fd 2 ?_;(iterate 2 refine sA ?_);refine zD ?_)
  refine zC (fun h => ?_) (fun h => ?_)
  ·rw [hm,← hh] at h
   simp only [h,if_true] at hx
   (refine zR ?_;(iterate 2 refine sI ?_);refine fI 0 ?_;(iterate 5 refine sI ?_);refine zN ?_)
   (refine zR ?_;(iterate 2 refine sA ?_);refine zN ?_)
   show ∃ _,_ ∧ _ ∧ _
   exact ⟨j + 1,by omega,by omega,Shift.sub ([(0,0),(1,1)] ++ rnN 2 2 ++ rnN 18 18 ++ rnN 34 34) rfl SubE.a (SubH.cons rfl rfl (ObLe.blk SLes.a) (SubH.cons rfl rfl (ObLe.row hx.symm) (SubH.cons rfl rfl (ObLe.nest rfl) (SubH.cons rfl rfl (ObLe.nest rfl) (SubH.cons rfl rfl (ObLe.nest rfl) SubH.nil)))))⟩
  ·rw [hm,← hh] at h
   simp only [h,Bool.false_eq_true,if_false] at hx
   refine zS ?_
   (refine zR ?_;(iterate 2 refine sA ?_);refine zN ?_)
   show ∃ _,_ ∧ _ ∧ _
   exact ⟨j + 1,by omega,by omega,Shift.sub ([(0,0),(1,1)] ++ rnN 2 2 ++ rnN 18 18 ++ rnN 34 34) rfl SubE.a (SubH.cons rfl rfl (ObLe.blk SLes.a) (SubH.cons rfl rfl (ObLe.row hx.symm) (SubH.cons rfl rfl (ObLe.nest rfl) (SubH.cons rfl rfl (ObLe.nest rfl) (SubH.cons rfl rfl (ObLe.nest rfl) SubH.nil)))))⟩
 ·have hjl : ((txN p n).sets.zip (runSets (txN p n) (s.vals.getD n []))).length ≤ j := by simp at h;rw [List.length_zip,← hl];omega
  (repeat apply WP.seq)
  refine WP.shift (Shift.sub (σ' := [(1,.is v1 (.off 0 0))]) (H' := turnH 0 50 51 67 83 ⟨putZ s.store (wrP (mS p) k (txN p n) (s.vals.getD n [])),s.rd,set2 s.wr n k true,s.vals⟩) (fr' := 99) ([(0,0),(50,1)] ++ rnN 51 2 ++ rnN 67 18 ++ rnN 83 34) rfl SubE.a (SubH.cons rfl rfl (ObLe.blk (SLes.cons (SLe.row rfl (yN _ _).symm) (SLes.cons SLe.a (SLes.cons (SLe.row rfl (qJ _ _ _ _).symm) (SLes.cons SLe.a SLes.nil))))) (SubH.cons rfl rfl (ObLe.row (wrTo_all hjl)) (SubH.cons rfl rfl (ObLe.nest rfl) (SubH.cons rfl rfl (ObLe.nest rfl) (SubH.cons rfl rfl (ObLe.nest rfl) SubH.nil)))))) ?_
  refine WP.exit ?_
  exact RetOkE.none Tryz.results88 HSb.a Kept.a
end Go.Proofs.YtjgmbgfcffnanaaGreatDoor
