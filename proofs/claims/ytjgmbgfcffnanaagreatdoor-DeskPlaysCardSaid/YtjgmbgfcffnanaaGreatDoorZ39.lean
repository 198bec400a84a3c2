/- Packages steps and play: Turn and On at a state that lies in a table. No condition. Package desk: the line rest. Package play: Results. Package desk: the line audit. -/
import Derived.Test.YtjgmbgfcffnanaaGreatDoorZ38
set_option maxRecDepth 100000
set_option maxHeartbeats 4000000
namespace Go.Proofs.YtjgmbgfcffnanaaGreatDoor
open Go.RowKit
abbrev tnBlk (x0 x1 x2 : IV) (a b c d : Nat) (s : StT) : HObj := .blk 40 [.im x0,.im x1,.im x2,.row a s.store.length,.row b s.rd.length,.row c s.wr.length,.row d s.vals.length]
abbrev tnH (x0 x1 x2 : IV) (z a b c d : Nat) (s : StT) : List Ent := (z,tnBlk x0 x1 x2 a b c d s) :: ownH s a b c d
theorem Turn_tab (x0 x1 x2 : IV) (p : Plan) (s : StT) (kind : Int) (n k : Nat) (v : Valid p s) (hB : TxsB p.txns) (hs : Step p s kind n k) :
 FnE CC 88 50 [.im (planV p),.off 0 3,.im (IV.agg [IV.int kind,IV.int (n : Int),IV.int (k : Int)])] (tnH x0 x1 x2 0 1 2 18 34 s) (.im (IV.tup [])) (tnH x0 x1 x2 0 50 51 67 83 (turnS p s kind n k)) 99 [0] := by
 obtain ⟨hm,hm1,hm4,hn8,hall⟩ := oO v.plan
 obtain ⟨ht,hok⟩ := hall n hs.hn
 have hbt : TxnB (txN p n) := hB _ (List.mem_of_getElem? ht)
 obtain ⟨hk1,hk2⟩ := yj hok
 obtain ⟨hz1,hz2,hz3,hz4⟩ := (y6 hok).1
 have hkm := hs.hk
 have hnn := hs.hn
 have hnT : nT p = p.txns.length := rfl
 have l1 := v.rdl
 have l2 := v.wrl
 have l3 := v.vall
 have l4 := v.rdr n hnn
 have l5 := v.wrr n hnn
 have l6 := v.valr n hnn
 have l7 := v.store
 have e1 : s.rd[n]? = some (s.rd.getD n []) := o9 [] (by omega)
 have e2 : s.wr[n]? = some (s.wr.getD n []) := o9 [] (by omega)
 have e3 : s.vals[n]? = some (s.vals.getD n []) := o9 [] (by omega)
 refine FnE.of_wp _ [(0,1)] Tryz.func88 rfl (by kernel_rfl) Tryz.ntmps88 rfl rfl rfl rfl rfl rfl rfl rfl rfl ?_
 intro F vs hD hvs
 obtain ⟨v0,v1,v2,rfl⟩ := len3 hvs
 show WP _ _ _ _ _ ⟨[(0,.im (planV p)),(1,.is v1 (.off 0 3)),(2,.im (IV.agg [IV.int kind,IV.int (n : Int),IV.int (k : Int)]))],tnH x0 x1 x2 0 1 2 18 34 s,50⟩
 (refine zR ?_;(iterate 2 refine sA ?_);refine zN ?_)
 (refine zR ?_;refine fd 1 ?_;refine sA ?_;refine fd 1 ?_;(iterate 5 refine sA ?_);refine zN ?_)
 refine WP.shift (Shift.frzBlk 6 rfl rfl rfl) ?_
 (refine zR ?_;refine fd 0 ?_;(iterate 2 refine sA ?_);refine zN ?_)
 refine zC (fun h => ?_) (fun h => ?_)
 ·have hkd : kind = 1 := by simpa using h
  subst hkd
  have ht1 := turn1 p s n k
  rw [ht1]
  (refine zW ?_;(iterate 2 refine sI ?_);refine fI 1 ?_;refine sI ?_;refine fI 1 ?_;(iterate 2 refine sI ?_);refine ALK.r (oV rfl rfl (eB rfl) rfl e1) rfl ?_;refine fI 2 ?_;(iterate 2 refine sI ?_);refine ALK.e (y5 (z := true) rfl rfl (eB rfl) (eB rfl) (yG rfl) rfl e1 rfl (by omega)) rfl rfl ?_;refine zD ?_)
  (refine zR ?_;refine fd 0 ?_;(iterate 3 refine sA ?_);refine zN ?_)
  refine zB ?_
  refine WP.loop (fun i : Nat => ⟨[(37,.im (IV.int i)),(35,.im (intsV (txN p n).reads)),(36,.im (IV.int (txN p n).reads.length)),(1,.is v1 (.off 0 3)),(3,.im (IV.ptr (cP p))),(5,.im (IV.ptr [IV.int 1,IV.int (n : Int),IV.int (k : Int)])),(6,.im (IV.ptr (cT (txN p n))))],[(0,tnBlk x0 x1 x2 1 2 18 34 s),(1,rowI s.store),(2,nestB (set2 s.rd n k true)),(18,nestB s.wr),(34,nestI (s.vals.set n (rdTo (mS p) k s.store (txN p n).reads (s.vals.getD n []) i)))],50⟩) (fun i => i ≤ (txN p n).reads.length) (fun i => (txN p n).reads.length - i) 0 (Nat.zero_le _)
   (Shift.sub ([(0,0),(1,1)] ++ rnN 2 2 ++ rnN 18 18 ++ rnN 34 34) rfl SubE.a (SubH.cons rfl rfl (ObLe.blk SLes.a) (SubH.cons rfl rfl (ObLe.row rfl) (SubH.cons rfl rfl (ObLe.nest rfl) (SubH.cons rfl rfl (ObLe.nest rfl) (SubH.cons rfl rfl (ObLe.nest (by rw [rdTo_zero,set_same e3])) SubH.nil)))))) ?_
  rintro i hi
  (refine zR ?_;refine sA ?_;refine zN ?_)
  refine zC (fun h => ?_) (fun h => ?_)
  ·refine zS ?_
   have hlt : i < (txN p n).reads.length := by simpa using h
   obtain ⟨key,hkey⟩ := oc hlt
   obtain ⟨k0,k8⟩ := hk1 key (List.mem_of_getElem? hkey)
   have hx := rdTo_next (m := mS p) (k := k) (st := s.store) (old := s.vals.getD n []) l6 hkey
   have hlen := rdTo_len (m := mS p) (k := k) (i := i) (st := s.store) l6
   have hh := vb (m := mS p) (k := k) k0
   have e4 : (s.vals.set n (rdTo (mS p) k s.store (txN p n).reads (s.vals.getD n []) i))[n]? = some (rdTo (mS p) k s.store (txN p n).reads (s.vals.getD n []) i) := set_at (by omega)
   have e5 := rdF_at (st := s.store) k0 (by omega)
   refine zB ?_
   (refine zR ?_;(iterate 5 refine sA ?_);refine zN ?_)
   (refine zW ?_;refine sA ?_;refine fd 0 ?_;refine sA ?_;refine ALK.n (uj (eB rfl) (eB rfl) (by omega) (by omega)) rfl ?_;refine fd 2 ?_;(iterate 2 refine sA ?_);refine zD ?_)
   refine zC (fun h => ?_) (fun h => ?_)
   ·rw [hm,← hh] at h
    rw [if_pos h] at hx
    (refine zW ?_;(iterate 2 refine sI ?_);refine fI 3 ?_;refine sI ?_;refine fI 1 ?_;(iterate 2 refine sI ?_);refine ALK.r (oV rfl rfl (eB rfl) rfl e4) rfl ?_;(iterate 3 refine sI ?_);refine fI 0 ?_;(iterate 3 refine sI ?_);refine ALK.r (oR rfl rfl (eB rfl) rfl e5 rfl) rfl ?_;refine sI ?_;refine ALK.e (y5 (z := rdF s.store key) rfl rfl (eB rfl) (eB rfl) (yG rfl) rfl e4 rfl (by omega)) rfl rfl ?_;refine zD ?_)
    (refine zR ?_;(iterate 2 refine sA ?_);refine zN ?_)
    show ∃ _,_ ∧ _ ∧ _
    exact ⟨i + 1,by omega,by omega,Shift.sub ([(0,0),(1,1)] ++ rnN 2 2 ++ rnN 18 18 ++ rnN 34 34) rfl SubE.a (SubH.cons rfl rfl (ObLe.blk SLes.a) (SubH.cons rfl rfl (ObLe.row rfl) (SubH.cons rfl rfl (ObLe.nest rfl) (SubH.cons rfl rfl (ObLe.nest rfl) (SubH.cons rfl rfl (ObLe.nest (by rw [hx];exact List.set_set ..)) SubH.nil)))))⟩
   ·rw [hm,← hh] at h
    rw [if_neg (by rw [h];simp)] at hx
    refine zS ?_
    (refine zR ?_;(iterate 2 refine sA ?_);refine zN ?_)
    show ∃ _,_ ∧ _ ∧ _
    exact ⟨i + 1,by omega,by omega,Shift.sub ([(0,0),(1,1)] ++ rnN 2 2 ++ rnN 18 18 ++ rnN 34 34) rfl SubE.a (SubH.cons rfl rfl (ObLe.blk SLes.a) (SubH.cons rfl rfl (ObLe.row rfl) (SubH.cons rfl rfl (ObLe.nest rfl) (SubH.cons rfl rfl (ObLe.nest rfl) (SubH.cons rfl rfl (ObLe.nest (by rw [hx])) SubH.nil)))))⟩
  ·refine zE ?_
   have hi2 : i = (txN p n).reads.length := by simp at h;omega
   subst hi2
   rw [rdTo_all l6]
   refine WP.shift (Shift.sub (σ' := [(1,.is v1 (.off 0 3))]) (H' := tnH x0 x1 x2 0 50 51 67 83 ⟨s.store,set2 s.rd n k true,s.wr,s.vals.set n (rdV (mS p) k s.store (txN p n).reads (s.vals.getD n []))⟩) (fr' := 99) ([(0,0),(50,1)] ++ rnN 51 2 ++ rnN 67 18 ++ rnN 83 34) rfl SubE.a (SubH.cons rfl rfl (ObLe.blk (SLes.cons SLe.a (SLes.cons SLe.a (SLes.cons SLe.a (SLes.cons SLe.a (SLes.cons (SLe.row rfl (qJ _ _ _ _).symm) (SLes.cons SLe.a (SLes.cons (SLe.row rfl (List.length_set ..).symm) SLes.nil)))))))) (SubH.cons rfl rfl (ObLe.row rfl) (SubH.cons rfl rfl (ObLe.nest rfl) (SubH.cons rfl rfl (ObLe.nest rfl) (SubH.cons rfl rfl (ObLe.nest rfl) SubH.nil)))))) ?_
   refine WP.ret ?_
   exact RetOkE.none Tryz.results88 HSb.a Kept.a
 refine zS ?_
 have hkd : kind = 2 := by rcases hs.kd with h1 | h1;(subst h1;simp at h);exact h1
 subst hkd
 have ht2 := turn2 p s n k
 rw [ht2]
 (refine zW ?_;(iterate 2 refine sI ?_);refine fI 2 ?_;refine sI ?_;refine fI 1 ?_;(iterate 2 refine sI ?_);refine ALK.r (oV rfl rfl (eB rfl) rfl e2) rfl ?_;refine fI 2 ?_;(iterate 2 refine sI ?_);refine ALK.e (y5 (z := true) rfl rfl (eB rfl) (eB rfl) (yG rfl) rfl e2 rfl (by omega)) rfl rfl ?_;refine zD ?_)
 (refine zW ?_;(iterate 3 refine sI ?_);refine fI 3 ?_;refine sI ?_;refine fI 1 ?_;(iterate 2 refine sI ?_);refine ALK.r (oV rfl rfl (eB rfl) rfl e3) rfl ?_;refine ALK.r (uD (txn_Do_new (txN p n) (s.vals.getD n []) hbt hok l6) (LentS.cons Ev.a .im (LentS.cons (eB rfl) (Lnd.inn rfl e3) LentS.nil))) rfl ?_;(iterate 6 refine sI ?_);refine zD ?_)
 have hle := uL (t := txN p n) (xs := s.vals.getD n [])
 obtain ⟨l,hl⟩ : ∃ l,l = runSets (txN p n) (s.vals.getD n []) := ⟨_,rfl⟩
 rw [← hl] at hle ⊢
 (refine zR ?_;(iterate 3 refine sA ?_);refine zN ?_)
 refine zB ?_
 refine WP.loop (fun j : Nat => ⟨[(93,.im (IV.int j)),(91,.im (intsV l)),(92,.im (IV.int l.length)),(1,.is v1 (.off 0 3)),(3,.im (IV.ptr (cP p))),(5,.im (IV.ptr [IV.int 2,IV.int (n : Int),IV.int (k : Int)])),(6,.im (IV.ptr (cT (txN p n))))],[(0,tnBlk x0 x1 x2 1 2 18 34 s),(1,rowI (wrTo (mS p) k s.store (txN p n) (s.vals.getD n []) j)),(2,nestB s.rd),(18,nestB (set2 s.wr n k true)),(34,nestI s.vals)],50⟩) (fun j => j ≤ l.length) (fun j => l.length - j) 0 (Nat.zero_le _)
  (Shift.sub ([(0,0),(1,1)] ++ rnN 2 2 ++ rnN 18 18 ++ rnN 34 34) rfl SubE.a (SubH.cons rfl rfl (ObLe.blk SLes.a) (SubH.cons rfl rfl (ObLe.row wrTo_zero.symm) (SubH.cons rfl rfl (ObLe.nest rfl) (SubH.cons rfl rfl (ObLe.nest rfl) (SubH.cons rfl rfl (ObLe.nest rfl) SubH.nil)))))) ?_
 rintro j hj
 (refine zR ?_;refine sA ?_;refine zN ?_)
 refine zC (fun h => ?_) (fun h => ?_)
 ·refine zS ?_
  have hjl : j < l.length := by simpa using h
  obtain ⟨z,hz⟩ := oc hjl
  obtain ⟨q,hq⟩ := oc (xs := (txN p n).sets) (k := j) (by omega)
  obtain ⟨k0,k8⟩ := hk2 q.key (List.mem_map.2 ⟨q,List.mem_of_getElem? hq,rfl⟩)
  have hzz : ((txN p n).sets.zip (runSets (txN p n) (s.vals.getD n [])))[j]? = some (q,z) := by rw [← hl,List.getElem?_zip_eq_some];exact ⟨hq,hz⟩
  have hx := wrTo_next (m := mS p) (k := k) (st := s.store) hzz
  have hlen := wrTo_len (m := mS p) (k := k) (j := j) (st := s.store) (xs := s.vals.getD n []) (t := txN p n)
  have hh := vb (m := mS p) (k := k) k0
  have hkl : q.key.toNat < (wrTo (mS p) k s.store (txN p n) (s.vals.getD n []) j).length := by omega
  refine zB ?_
  (refine zR ?_;(iterate 5 refine sA ?_);refine zN ?_)
  (refine zR ?_;refine fd 2 ?_;(iterate 3 refine sA ?_);refine fd 0 ?_;(iterate 2 refine sA ?_);refine zN ?_)
  (refine zW ?_;refine sA ?_;refine fd 0 ?_;refine sA ?_;refine ALK.n (uj (eB rfl) (eB rfl) (by omega) (by omega)) rfl ?_;refine fd 2 ?_;(iterate 2 refine sA ?_);refine zD ?_)
  refine zC (fun h => ?_) (fun h => ?_)
  ·rw [hm,← hh] at h
   simp only [h,if_true] at hx
   (refine zR ?_;(iterate 2 refine sI ?_);refine fI 0 ?_;(iterate 5 refine sI ?_);refine zN ?_)
   (refine zR ?_;(iterate 2 refine sA ?_);refine zN ?_)
   show ∃ _,_ ∧ _ ∧ _
   exact ⟨j + 1,by omega,by omega,Shift.sub ([(0,0),(1,1)] ++ rnN 2 2 ++ rnN 18 18 ++ rnN 34 34) rfl SubE.a (SubH.cons rfl rfl (ObLe.blk SLes.a) (SubH.cons rfl rfl (ObLe.row hx.symm) (SubH.cons rfl rfl (ObLe.nest rfl) (SubH.cons rfl rfl (ObLe.nest rfl) (SubH.cons rfl rfl (ObLe.nest rfl) SubH.nil)))))⟩
  ·rw [hm,← hh] at h
   simp only [h,Bool.false_eq_true,if_false] at hx
   refine zS ?_
   (refine zR ?_;(iterate 2 refine sA ?_);refine zN ?_)
   show ∃ _,_ ∧ _ ∧ _
   exact ⟨j + 1,by omega,by omega,Shift.sub ([(0,0),(1,1)] ++ rnN 2 2 ++ rnN 18 18 ++ rnN 34 34) rfl SubE.a (SubH.cons rfl rfl (ObLe.blk SLes.a) (SubH.cons rfl rfl (ObLe.row hx.symm) (SubH.cons rfl rfl (ObLe.nest rfl) (SubH.cons rfl rfl (ObLe.nest rfl) (SubH.cons rfl rfl (ObLe.nest rfl) SubH.nil)))))⟩
 ·have hjl : ((txN p n).sets.zip (runSets (txN p n) (s.vals.getD n []))).length ≤ j := by simp at h;rw [List.length_zip,← hl];omega
  (repeat apply WP.seq)
  refine WP.shift (Shift.sub (σ' := [(1,.is v1 (.off 0 3))]) (H' := tnH x0 x1 x2 0 50 51 67 83 ⟨putZ s.store (wrP (mS p) k (txN p n) (s.vals.getD n [])),s.rd,set2 s.wr n k true,s.vals⟩) (fr' := 99) ([(0,0),(50,1)] ++ rnN 51 2 ++ rnN 67 18 ++ rnN 83 34) rfl SubE.a (SubH.cons rfl rfl (ObLe.blk (SLes.cons SLe.a (SLes.cons SLe.a (SLes.cons SLe.a (SLes.cons (SLe.row rfl (yN _ _).symm) (SLes.cons SLe.a (SLes.cons (SLe.row rfl (qJ _ _ _ _).symm) (SLes.cons SLe.a SLes.nil)))))))) (SubH.cons rfl rfl (ObLe.row (wrTo_all hjl)) (SubH.cons rfl rfl (ObLe.nest rfl) (SubH.cons rfl rfl (ObLe.nest rfl) (SubH.cons rfl rfl (ObLe.nest rfl) SubH.nil)))))) ?_
  refine WP.exit ?_
  exact RetOkE.none Tryz.results88 HSb.a Kept.a
theorem On_tab (x0 x1 x2 : IV) (p : Plan) (s0 : StT) (picks : List Int) (v0 : Valid p s0) (hB : TxsB p.txns) (hpk : ∀ x ∈ picks,I64 x) (_ : picks.length ≤ 200) :
 FnE CC 47 50 [.im (planV p),.off 0 3,.im (intsV picks)] (tnH x0 x1 x2 0 1 2 18 34 s0) (.im (IV.int ((onF p picks s0 0).2 : Int))) (tnH x0 x1 x2 0 50 51 67 83 (onF p picks s0 0).1) 99 [0] := by
 have h64 := togo_le v0
 refine FnE.of_wp _ [(0,1)] Tryz.func47 rfl (by kernel_rfl) Tryz.ntmps47 rfl rfl rfl rfl rfl rfl rfl rfl rfl ?_
 intro F vs hD hvs
 obtain ⟨v0',v1,v2,rfl⟩ := len3 hvs
 show WP _ _ _ _ _ ⟨[(0,.im (planV p)),(1,.is v1 (.off 0 3)),(2,.im (intsV picks))],tnH x0 x1 x2 0 1 2 18 34 s0,50⟩
 (refine zR ?_;(iterate 2 refine sI ?_);refine zN ?_)
 (refine zR ?_;refine sI ?_;refine zN ?_)
 refine zB ?_
 refine WP.loop (fun c : StT × Nat => ⟨[(7,.im (IV.int c.2)),(1,.is v1 (.off 0 3)),(2,.im (intsV picks)),(3,.im (IV.ptr (cP p)))],tnH x0 x1 x2 0 1 2 18 34 c.1,50⟩) (fun c => Valid p c.1 ∧ onF p picks c.1 c.2 = onF p picks s0 0 ∧ c.2 + togo p c.1 ≤ 64) (fun c => togo p c.1) (s0,0) ⟨v0,rfl,by simp only;omega⟩ (Shift.sub ([(0,0),(1,1)] ++ rnN 2 2 ++ rnN 18 18 ++ rnN 34 34) rfl SubE.a (SubH.cons rfl rfl (ObLe.blk SLes.a) (SubH.cons rfl rfl (ObLe.row rfl) (SubH.cons rfl rfl (ObLe.nest rfl) (SubH.cons rfl rfl (ObLe.nest rfl) (SubH.cons rfl rfl (ObLe.nest rfl) SubH.nil)))))) ?_
 rintro ⟨s,n⟩ ⟨v,he,hn⟩
 simp only at v he hn
 (refine zW ?_;(iterate 4 refine sI ?_);refine ALK.r (uD (FnN.of_flat (Ended_fn p s v.shp hB) (FlatI.val _)) (LentS.cons Ev.a .im (LentS.cons (eB rfl) (lnd_st rfl rfl rfl rfl) .nil))) rfl ?_;refine sI ?_;refine zD ?_)
 refine zC (fun h => ?_) (fun h => ?_)
 ·refine zS ?_
  have ho : overB p s = false := by simpa using h
  clear h
  obtain ⟨v2,ht,hgo⟩ := onF_go (picks := picks) (n := n) v ho
  obtain ⟨x,hx,hnx,hat,hlen⟩ := nxt_at v ho picks n
  have hp0 := pick_nn picks n
  obtain ⟨hst',a1,a2,a3,a4⟩ := Step.of_mem hx
  obtain ⟨kind,tn,sh⟩ := x
  simp only at a1 a2 a3 a4 hst'
  obtain ⟨i,rfl⟩ : ∃ i : Nat,tn = i := ⟨tn.toNat,by omega⟩
  obtain ⟨k,rfl⟩ : ∃ k : Nat,sh = k := ⟨sh.toNat,by omega⟩
  have hnx2 : nxt p picks s n = turnS p s kind i k := hnx
  have hst2 : Step p s kind i k := hst'
  have hmod : 0 ≤ pickN picks n % ((canL p s).length : Int) := Int.emod_nonneg _ (by omega)
  refine zB ?_
  (refine zW ?_;(iterate 4 refine sI ?_);refine ALK.r (uD (Steps_new p s v hB) (LentS.cons Ev.a .im (LentS.cons (eB rfl) (lnd_st rfl rfl rfl rfl) .nil))) rfl ?_;refine sI ?_;refine zD ?_)
  (refine zR ?_;refine sI ?_;refine zN ?_)
  (refine zR ?_;(iterate 4 refine sI ?_);refine zN ?_)
  ((repeat apply WP.seq);refine WP.qshift (⟨[(9,.im (IV.int (pickN picks n))),(8,.im (stpsV (canL p s))),(7,.im (IV.int n)),(1,.is v1 (.off 0 3)),(2,.im (intsV picks)),(3,.im (IV.ptr (cP p)))],tnH x0 x1 x2 0 1 2 18 34 s,50⟩) (WP.cond rfl (fun h => ?_) (fun h => ?_)) ?_)
  ·have hnl : n < picks.length := by simpa using h
   obtain ⟨pk,hpkn⟩ := oc hnl
   have hpi := hpk pk (List.mem_of_getElem? hpkn)
   have hpi' : -9223372036854775808 ≤ pk ∧ pk ≤ 9223372036854775807 := hpi
   have hpN : pickN picks n = if pk < 0 then -(pk + 1) else pk := by unfold pickN;rw [hpkn]
   (refine zR ?_;(iterate 5 refine sI ?_);refine zN ?_)
   (refine zR ?_;(iterate 2 refine sI ?_);refine zN ?_)
   refine zC (fun h => ?_) (fun h => ?_)
   ·rw [if_pos (by simpa using h)] at hpN
    (refine zR ?_;(iterate 2 refine sI ?_);refine ALK.n (opn_neg (eB rfl) (by omega) (by omega)) rfl ?_;refine sI ?_;refine zN ?_)
    show Shift _ _ _ _
    exact Shift.sub ([(0,0),(1,1)] ++ rnN 2 2 ++ rnN 18 18 ++ rnN 34 34) rfl (SubE.cons rfl (SLe.im (ILe.int hpN.symm)) SubE.a) (SubH.cons rfl rfl (ObLe.blk SLes.a) (SubH.cons rfl rfl (ObLe.row rfl) (SubH.cons rfl rfl (ObLe.nest rfl) (SubH.cons rfl rfl (ObLe.nest rfl) (SubH.cons rfl rfl (ObLe.nest rfl) SubH.nil)))))
   ·rw [if_neg (by simpa using h)] at hpN
    refine WP.skip ?_;show Shift _ _ _ _
    exact Shift.sub ([(0,0),(1,1)] ++ rnN 2 2 ++ rnN 18 18 ++ rnN 34 34) rfl (SubE.cons rfl (SLe.im (ILe.int hpN.symm)) SubE.a) (SubH.cons rfl rfl (ObLe.blk SLes.a) (SubH.cons rfl rfl (ObLe.row rfl) (SubH.cons rfl rfl (ObLe.nest rfl) (SubH.cons rfl rfl (ObLe.nest rfl) (SubH.cons rfl rfl (ObLe.nest rfl) SubH.nil)))))
  ·have hnl : ¬ n < picks.length := by simpa using h
   have hpN : pickN picks n = 0 := by
    unfold pickN;rw [List.getElem?_eq_none (by omega)]
   refine WP.skip ?_;show Shift _ _ _ _
   exact Shift.sub ([(0,0),(1,1)] ++ rnN 2 2 ++ rnN 18 18 ++ rnN 34 34) rfl (SubE.cons rfl (SLe.im (ILe.int hpN.symm)) SubE.a) (SubH.cons rfl rfl (ObLe.blk SLes.a) (SubH.cons rfl rfl (ObLe.row rfl) (SubH.cons rfl rfl (ObLe.nest rfl) (SubH.cons rfl rfl (ObLe.nest rfl) (SubH.cons rfl rfl (ObLe.nest rfl) SubH.nil)))))
  (refine zW ?_;(iterate 6 refine sI ?_);refine ALK.n (uj (eB rfl) (eB rfl) (by omega) (by omega)) rfl ?_;(iterate 2 refine sI ?_);refine ALK.e (j6 [0,1,2,3,4,5,6,7,8,9,10,11,12,13,14,15,16,17,18,19,20,21,22,23,24,25,26,27,28,29,30,31,32,33,34,35,36,37,38,39,40,41,42,43,44,45,46,47,48,49] (tnH x0 x1 x2 0 50 51 67 83 (turnS p s kind i k)) (.im (IV.tup [])) 99 (Turn_tab x0 x1 x2 p s kind i k v hB hst2) EvsS.a HIn.a rfl (by kernel_rfl) rfl rfl (by kernel_rfl) (by kernel_rfl) (by kernel_rfl)) rfl rfl ?_;refine zD ?_)
  (refine zR ?_;(iterate 3 refine sI ?_);refine zN ?_)
  show ∃ _,_ ∧ _ ∧ _
  rw [hgo,hnx2] at he
  rw [hnx2] at v2 ht
  exact ⟨(turnS p s kind i k,n + 1),⟨v2,he,by simp only;omega⟩,by simp only;omega,Shift.sub ([(0,0),(1,50)] ++ rnN 2 51 ++ rnN 18 67 ++ rnN 34 83) rfl SubE.a (SubH.cons rfl rfl (ObLe.blk SLes.a) (SubH.cons rfl rfl (ObLe.row rfl) (SubH.cons rfl rfl (ObLe.nest rfl) (SubH.cons rfl rfl (ObLe.nest rfl) (SubH.cons rfl rfl (ObLe.nest rfl) SubH.nil)))))⟩
 ·refine zE ?_
  have ho : overB p s = true := by simpa using h
  rw [onF_over ho] at he
  rw [← he]
  (refine zR ?_;(iterate 2 refine sI ?_);refine zN ?_)
  refine WP.shift (Shift.sub (σ' := [(6,.im (IV.int n)),(1,.is v1 (.off 0 3))]) (H' := tnH x0 x1 x2 0 50 51 67 83 s) (fr' := 99) ([(0,0),(50,1)] ++ rnN 51 2 ++ rnN 67 18 ++ rnN 83 34) rfl SubE.a (SubH.cons rfl rfl (ObLe.blk SLes.a) (SubH.cons rfl rfl (ObLe.row rfl) (SubH.cons rfl rfl (ObLe.nest rfl) (SubH.cons rfl rfl (ObLe.nest rfl) (SubH.cons rfl rfl (ObLe.nest rfl) SubH.nil)))))) ?_
  exact zT Tryz.results47
theorem line_rest {M : Mem} (p : Plan) (d : Dk) (g : Good p d) (hB : TxsB p.txns) (hpI : PlanI p) : LineB M p d sRest := by
 have hr : lineS p d sRest = (digs (restN p d),restD p d) := by unfold lineS;rw [if_neg (by decide),if_neg (by decide),if_pos rfl]
 obtain ⟨gg,_,hN0,hN1⟩ := g.rest hpI
 have v := g.v
 obtain ⟨hm,hm1,hm4,hn8,hall⟩ := oO v.plan
 have b5 : ∀ l ∈ d.s.rd,l.length ≤ 1000 := jZ fun i hi => by rw [v.rdr i (by rw [v.rdl] at hi;exact hi)];omega
 have b6 : ∀ l ∈ d.s.wr,l.length ≤ 1000 := jZ fun i hi => by rw [v.wrr i (by rw [v.wrl] at hi;exact hi)];omega
 have b7 : ∀ l ∈ d.s.vals,l.length ≤ 1000 := len_le fun i hi => by
  have hi' : i < nT p := by rw [v.vall] at hi;exact hi
  rw [v.valr i hi']
  have := Valid.reads4 v.plan hi'
  omega
 have hown := Own_new d.s (by rw [v.store];omega) (by rw [v.rdl];exact hn8) (by rw [v.wrl,v.rdl]) (by rw [v.vall,v.rdl]) b5 b6 b7
 obtain ⟨n,hn⟩ : ∃ n,n = restN p d := ⟨_,rfl⟩
 have hon := On_tab (IV.int p.shards) (txsV p.txns) (intsV d.first) p d.s [] v hB (fun x hx => by cases hx) (Nat.zero_le _)
 obtain ⟨s',hs'⟩ : ∃ s',s' = (onF p [] d.s 0).1 := ⟨_,rfl⟩
 have hn' : ((onF p [] d.s 0).2 : Int) = n := hn.symm
 have hd' : restD p d = ⟨d.first,s'⟩ := by rw [hs'];rfl
 rw [← hs',hn'] at hon
 rw [← hn] at hN0 hN1 hr
 rw [hd'] at hr
 clear gg hn hd' hs' hn'
 intro c0 c1 c hc F v0 v4
 have h1 : some (Code.seq _ (Code.seq _ _)) = some (Code.seq c0 (Code.seq c1 c)) := hc
 clear hc
 injection h1 with h1
 injection h1 with h0 h1
 clear h0
 injection h1 with h0 h1
 clear h0
 subst h1
 refine WP.shift (Shift.gh 1 rfl (by decide)) ?_
 (refine zR ?_;refine sI ?_;refine zN ?_)
 refine zB ?_
 (refine zR ?_;refine ALK.n (oa (c := false) (eB rfl) (eB rfl) (by decide)) rfl ?_;refine sI ?_;refine zN ?_)
 refine zC (fun h => ?_) (fun h => ?_)
 ·cases h
 clear h
 (refine zR ?_;refine ALK.n (oa (c := false) (eB rfl) (eB rfl) (by decide)) rfl ?_;refine sI ?_;refine zN ?_)
 refine zC (fun h => ?_) (fun h => ?_)
 ·cases h
 clear h
 (refine zR ?_;refine ALK.n (oa (c := true) (eB rfl) (eB rfl) (by decide)) rfl ?_;refine sI ?_;refine zN ?_)
 refine zC (fun h => ?_) (fun h => ?_)
 ·(refine zR ?_;(iterate 3 refine sI ?_);refine fI 3 ?_;refine sI ?_;refine ALK.e (o5 [] hown EvsS.a rfl rfl rfl HIn.a) rfl rfl ?_;refine sI ?_;refine fI 3 ?_;refine sI ?_;refine zN ?_)
  (refine zW ?_;(iterate 2 refine sI ?_);refine fI 0 ?_;(iterate 3 refine sI ?_);refine fI 3 ?_;refine ALK.e (j6 [0,2,3,4,5,6,7,8,9,10,11,12,13,14,15,16,17,18,19,20,21,22,23,24,25,26,27,28,29,30,31,32,33,34,35,36,37,38,39,40,41,42,43,44,45,46,47,48,49,50] (tnH (IV.int p.shards) (txsV p.txns) (intsV d.first) 0 51 52 68 84 s' ++ [(1,imB 9 [IV.str []])]) (.im (IV.int n)) 100 hon EvsS.a HIn.a rfl (by kernel_rfl) rfl rfl (by kernel_rfl) (by kernel_rfl) (by kernel_rfl)) rfl rfl ?_;refine ALK.n (o3 (yH n hN0 (by omega)) (Evs.cons Ev.a Evs.nil)) rfl ?_;refine sI ?_;refine zD ?_)
  refine WP.shift (Shift.frzIn 0 3 rfl rfl rfl rfl) ?_
  refine WP.shift (Shift.frzNestIn 0 4 rfl rfl rfl rfl) ?_
  refine WP.shift (Shift.frzNestIn 0 5 rfl rfl rfl rfl) ?_
  refine WP.shift (Shift.frzNestIn 0 6 rfl rfl rfl rfl) ?_
  (repeat apply WP.seq)
  refine WP.ret ?_
  exact ⟨rfl,rfl,by rw [hr];rfl,by rw [hr];rfl⟩
 ·cases h
theorem Results_fn (p : Plan) (s : StT) (hB : TxsB p.txns) : Fn CC 48 [planV p,stV s] (IV.tup [ressV (resR p s),IV.int (resE p s)]) := by
 refine Fn.of_wp _ Tryz.func48 rfl (by kernel_rfl) Tryz.ntmps48 rfl ?_
 intro F hD hG
 (refine zR ?_;(iterate 4 refine sA ?_);refine zN ?_)
 (refine zR ?_;(iterate 2 refine sA ?_);refine ALK.n (o3 (Over_fn p s hB) (Evs.cons Ev.a (Evs.cons Ev.a Evs.nil))) rfl ?_;(iterate 5 refine sA ?_);refine zN ?_)
 (refine zR ?_;(iterate 2 refine sA ?_);refine zN ?_)
 refine zC (fun h => ?_) (fun h => ?_)
 ·(refine zR ?_;(iterate 3 refine sA ?_);refine zN ?_)
  have hne : ¬ checkState p s = 0 := by simpa using h
  have h1 : resE p s = checkState p s := by unfold resE;rw [if_neg hne]
  have h2 : resR p s = [] := by unfold resR;rw [h1,if_neg hne]
  rw [h1,h2]
  exact zT Tryz.results48
 refine zS ?_
 have h0 : checkState p s = 0 := by simpa using h
 have v := ud.1 h0
 obtain ⟨hm,hm1,hm4,hn8,hall⟩ := oO v.plan
 have hnT : nT p = p.txns.length := rfl
 have hov : overE p s = overB p s := by unfold overE;rw [decide_eq_true h0];rfl
 clear h
 (refine zR ?_;(iterate 2 refine sA ?_);refine zN ?_)
 rw [hov]
 refine zC (fun h => ?_) (fun h => ?_)
 ·(refine zR ?_;(iterate 2 refine sA ?_);refine zN ?_)
  have ho : overB p s = false := by simpa using h
  have h1 : resE p s = 8 := by unfold resE;rw [if_pos h0,ho];rfl
  have h2 : resR p s = [] := by unfold resR;rw [h1];rfl
  rw [h1,h2]
  exact zT Tryz.results48
 refine zS ?_
 have ho : overB p s = true := by simpa using h
 have h1 : resE p s = 0 := by unfold resE;rw [if_pos h0,ho];rfl
 have h2 : resR p s = resTo p s (nT p) := by unfold resR;rw [if_pos h1]
 rw [h1,h2]
 clear h
 (refine zR ?_;refine sA ?_;refine zN ?_)
 refine WP.shift (Shift.row0 8 163 2 cR (fun _ => rfl) rfl) ?_
 (refine zR ?_;refine fd 1 ?_;(iterate 3 refine sA ?_);refine zN ?_)
 refine zB ?_
 refine WP.loop (fun n : Nat => ⟨[(27,.im (IV.int n)),(25,.im (txsV p.txns)),(26,.im (IV.int p.txns.length)),(8,.row 0 n),(2,.im (IV.ptr (cP p))),(3,.im (IV.ptr (cSt s)))],[(0,.row 163 2 cR (resTo p s n))],1⟩) (fun n => n ≤ nT p) (fun n => nT p - n) 0 (Nat.zero_le _) (Shift.sub [(0,0)] rfl SubE.a SubH.a) ?_
 rintro n hn
 (refine zR ?_;refine sA ?_;refine zN ?_)
 refine zC (fun h => ?_) (fun h => ?_)
 ·refine zS ?_
  have hlt : n < nT p := by simp at h;omega
  obtain ⟨ht,hok⟩ := hall n hlt
  have hbt : TxnB (txN p n) := hB _ (List.mem_of_getElem? ht)
  have e3 := v.shp.vals hlt
  have hx := resTo_next p s n
  have hl := resTo_len p s n
  refine zB ?_
  (refine zR ?_;(iterate 6 refine sA ?_);refine zN ?_)
  refine WP.shift (Shift.frzBlk 10 rfl rfl rfl) ?_
  (refine zW ?_;refine sA ?_;refine fd 3 ?_;(iterate 4 refine sA ?_);refine ALK.n (o3 (txn_Do_fn (txN p n) (s.vals.getD n []) hbt hok (v.valr n hlt)) (Evs.cons Ev.a (Evs.cons Ev.a Evs.nil))) rfl ?_;(iterate 6 refine sA ?_);refine zD ?_)
  refine WP.shift (Shift.frzBlk 11 rfl rfl rfl) ?_
  (refine zR ?_;(iterate 2 refine sA ?_);refine ALK.n (o6 rfl rfl rfl rfl rfl rfl (Pc rfl (eB rfl) Cs.a rfl rfl Parts.nil) rfl) rfl ?_;refine ALK.e (o8 (b := 32) [(⟨runDone (txN p n) (s.vals.getD n []),s.vals.getD n []⟩ : Res)] rfl rfl rfl rfl rfl (eB rfl) (eB rfl) rfl rfl (by rw [hl];simp;omega) rfl) rfl rfl ?_;refine sA ?_;refine zN ?_)
  (refine zR ?_;(iterate 2 refine sA ?_);refine zN ?_)
  show ∃ _,_ ∧ _ ∧ _
  exact ⟨n + 1,by omega,by omega,Shift.sub [(0,3)] rfl (SubE.cons rfl SLe.a (SubE.cons rfl SLe.a (SubE.cons rfl SLe.a (SubE.cons rfl (SLe.row rfl (by rw [hl];rfl)) SubE.a)))) (SubH.cons rfl rfl (ObLe.row hx.symm) SubH.nil)⟩
 ·refine zE ?_
  have hn2 : n = nT p := by simp at h;omega
  subst hn2
  refine WP.shift (Shift.frzRow 8 rfl rfl) ?_
  (refine zR ?_;(iterate 3 refine sA ?_);refine zN ?_)
  exact zT Tryz.results48
theorem line_audit {M : Mem} (hM : GlobM M) (p : Plan) (d : Dk) (g : Good p d) (hB : TxsB p.txns) : LineB M p d sAudit := by
 have hr : lineS p d sAudit = (if resE p d.s = 0 then digs (auditN p d) else errT (resE p d.s),d) := by unfold lineS;rw [if_neg (by decide),if_neg (by decide),if_neg (by decide),if_pos rfl]
 have hR := Results_fn p d.s hB
 have hA := Audit_fn d.first p.txns d.s.store (resR p d.s) hB
 have hAI : I64 (auditN p d) := I64.small (by have := g.audit;omega) (by have := g.audit;omega)
 intro c0 c1 c hc F v0 v4
 have h1 : some (Code.seq _ (Code.seq _ _)) = some (Code.seq c0 (Code.seq c1 c)) := hc
 clear hc
 injection h1 with h1
 injection h1 with h0 h1
 clear h0
 injection h1 with h0 h1
 clear h0
 subst h1
 refine WP.shift (Shift.gh 1 rfl (by decide)) ?_
 (refine zR ?_;refine sI ?_;refine zN ?_)
 refine zB ?_
 (refine zR ?_;refine ALK.n (oa (c := false) (eB rfl) (eB rfl) (by decide)) rfl ?_;refine sI ?_;refine zN ?_)
 refine zC (fun h => ?_) (fun h => ?_)
 ·cases h
 clear h
 (refine zR ?_;refine ALK.n (oa (c := false) (eB rfl) (eB rfl) (by decide)) rfl ?_;refine sI ?_;refine zN ?_)
 refine zC (fun h => ?_) (fun h => ?_)
 ·cases h
 clear h
 (refine zR ?_;refine ALK.n (oa (c := false) (eB rfl) (eB rfl) (by decide)) rfl ?_;refine sI ?_;refine zN ?_)
 refine zC (fun h => ?_) (fun h => ?_)
 ·cases h
 clear h
 (refine zR ?_;refine ALK.n (oa (c := true) (eB rfl) (eB rfl) (by decide)) rfl ?_;refine sI ?_;refine zN ?_)
 refine zC (fun h => ?_) (fun h => ?_)
 ·rcases v6 g.v with he | he
  ·rw [he] at hR
   rw [if_pos he] at hr
   (refine zW ?_;(iterate 2 refine sI ?_);refine fI 0 ?_;(iterate 3 refine sI ?_);refine fI 3 ?_;refine sI ?_;refine ALK.n (o3 hR (Evs.cons Ev.a (Evs.cons Ev.a Evs.nil))) rfl ?_;(iterate 5 refine sI ?_);refine zD ?_)
   (refine zR ?_;(iterate 3 refine sI ?_);refine ALK.n (o3 (oI 0) (Evs.cons Ev.a (Evs.cons Ev.a Evs.nil))) rfl ?_;refine zN ?_)
   (refine zW ?_;(iterate 2 refine sI ?_);refine fI 2 ?_;(iterate 3 refine sI ?_);refine fI 0 ?_;refine fI 1 ?_;(iterate 3 refine sI ?_);refine fI 3 ?_;refine fI 0 ?_;(iterate 2 refine sI ?_);refine ALK.n (o3 hA (Evs.cons Ev.a (Evs.cons Ev.a (Evs.cons Ev.a (Evs.cons Ev.a Evs.nil))))) rfl ?_;(iterate 5 refine sI ?_);refine zD ?_)
   (refine zR ?_;refine sI ?_;refine ALK.n (o3 (Itoa_fn hM (auditN p d) hAI) (Evs.cons (Ev.wth (eB rfl) rfl) Evs.nil)) rfl ?_;refine sI ?_;refine zN ?_)
   (repeat apply WP.seq)
   refine WP.ret ?_
   exact ⟨rfl,rfl,by rw [hr];rfl,by rw [hr];rfl⟩
  ·rw [he] at hR
   rw [if_neg (by rw [he];decide),he] at hr
   (refine zW ?_;(iterate 2 refine sI ?_);refine fI 0 ?_;(iterate 3 refine sI ?_);refine fI 3 ?_;refine sI ?_;refine ALK.n (o3 hR (Evs.cons Ev.a (Evs.cons Ev.a Evs.nil))) rfl ?_;(iterate 5 refine sI ?_);refine zD ?_)
   ((repeat apply WP.seq);apply WP.xreg;refine LX.n (o4 (eB rfl)) rfl ?_;refine LX.n OpN.cm rfl ?_;refine LX.n (o4 (eB rfl)) rfl ?_;refine LX.p (og [] (qm 8) EvsS.a rfl rfl rfl HIn.a) ?_)
   exact ⟨8,rfl,by omega,hr,rfl,rfl,rfl,rfl⟩
 ·cases h
end Go.Proofs.YtjgmbgfcffnanaaGreatDoor
