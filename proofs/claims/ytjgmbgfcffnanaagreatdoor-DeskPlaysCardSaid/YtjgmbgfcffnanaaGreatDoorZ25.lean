/- The reference's steps: gone, allRead, may, CheckState, OverOf. The reference's CanOf and SameStates. -/
import Derived.Test.YtjgmbgfcffnanaaGreatDoorZ24
set_option maxRecDepth 100000
set_option maxHeartbeats 4000000
namespace Go.Proofs.YtjgmbgfcffnanaaGreatDoor
open Go.RowKit
theorem gone_ref {p : Plan} {s : StT} (v : Valid p s) {n k : Nat} (hn : n < nT p) (hk : k < mS p) : goneB p s n k = if prt p n k then (if act p n k then bAt s.wr n k else bAt s.rd n k) else true := by
 have h1 := v.wra n k hn hk
 have h2 : act p n k = true → prt p n k = true := jT hk
 unfold goneB
 revert h1 h2
 generalize allB p s n = a
 cases prt p n k <;> cases act p n k <;> cases bAt s.wr n k <;> cases bAt s.rd n k <;> simp
theorem R_gone_fn (p : Plan) (s : StT) (n k : Nat) (v : Valid p s) (hn : n < nT p) (hk : k < mS p) : Fn CC 104 [planV p,stV s,IV.int (n : Int),IV.int (k : Int)] (IV.bool (goneB p s n k)) := by
 obtain ⟨hm,hm1,hm4,hn8,hall⟩ := oO v.plan
 obtain ⟨ht,hok⟩ := hall n hn
 have e1 := prt_at (p := p) (n := n) hk
 have e2 := act_at (p := p) (n := n) hk
 have e3 := v.shp.rd hn
 have e4 := v.shp.wr hn
 have e5 := v.shp.rdk hn hk
 have e6 := v.shp.wrk hn hk
 have hg := gone_ref v hn hk
 refine Fn.of_wp _ Tryz.func104 rfl (by kernel_rfl) Tryz.ntmps104 rfl ?_
 intro F hD hG
 (refine zR ?_;(iterate 3 refine sA ?_);refine zN ?_)
 (refine zR ?_;(iterate 2 refine sA ?_);refine ALK.n (o3 (u9 p (mS p) n (txN p n) hm hm1 hm4 (by omega) ht hok) (Evs.cons Ev.a (Evs.cons Ev.a Evs.nil))) rfl ?_;(iterate 4 refine sA ?_);refine zN ?_)
 refine zC (fun h => ?_) (fun h => ?_)
 ·have h1 : prt p n k = false := by simpa using h
  rw [h1] at hg
  have hr : goneB p s n k = true := hg
  (refine zR ?_;refine sA ?_;refine zN ?_)
  exact zT Tryz.results104
 refine zS ?_
 have h1 : prt p n k = true := by simpa using h
 rw [if_pos h1] at hg
 (refine zR ?_;(iterate 2 refine sA ?_);refine ALK.n (o3 (ub p (mS p) n (txN p n) hm hm1 hm4 (by omega) ht hok) (Evs.cons Ev.a (Evs.cons Ev.a Evs.nil))) rfl ?_;(iterate 3 refine sA ?_);refine zN ?_)
 refine zC (fun h => ?_) (fun h => ?_)
 ·rw [if_pos h] at hg
  (refine zR ?_;refine fd 2 ?_;(iterate 8 refine sA ?_);refine zN ?_)
  rw [hg]
  exact zT Tryz.results104
 refine zS ?_
 rw [if_neg (by rw [h];simp)] at hg
 (refine zR ?_;refine fd 1 ?_;(iterate 8 refine sA ?_);refine zN ?_)
 rw [hg]
 exact zT Tryz.results104
theorem R_allRead_fn (p : Plan) (s : StT) (n : Nat) (hp : checkPlan p = 0) (hn : n < nT p) (l1 : s.rd.length = nT p) (l2 : (s.rd.getD n []).length = mS p) : Fn CC 137 [planV p,stV s,IV.int (n : Int)] (IV.bool (allB p s n)) := by
 obtain ⟨hm,hm1,hm4,hn8,hall⟩ := oO hp
 obtain ⟨ht,hok⟩ := hall n hn
 have e3 : s.rd[n]? = some (s.rd.getD n []) := o9 [] (by omega)
 refine Fn.of_wp _ Tryz.func137 rfl (by kernel_rfl) Tryz.ntmps137 rfl ?_
 intro F hD hG
 (refine zR ?_;(iterate 3 refine sA ?_);refine zN ?_)
 (refine zR ?_;(iterate 2 refine sA ?_);refine ALK.n (o3 (u9 p (mS p) n (txN p n) hm hm1 hm4 (by omega) ht hok) (Evs.cons Ev.a (Evs.cons Ev.a Evs.nil))) rfl ?_;refine sA ?_;refine zN ?_)
 (refine zR ?_;refine sA ?_;refine zN ?_)
 refine zB ?_
 refine WP.loop (fun k : Nat => ⟨[(8,.im (IV.int k)),(7,.im (boolsV (partL (mS p) (txN p n)))),(2,.im (IV.int n)),(3,.im (IV.ptr (cP p))),(4,.im (IV.ptr (cSt s)))],[],0⟩) (fun k => k ≤ mS p ∧ ∀ j,j < k → prt p n j = true → bAt s.rd n j = true) (fun k => mS p - k) 0 ⟨Nat.zero_le _,fun j hj => by omega⟩ (Shift.sub [] rfl SubE.a SubH.nil) ?_
 rintro k ⟨hk,hf⟩
 (refine zR ?_;refine sA ?_;refine fd 0 ?_;(iterate 2 refine sA ?_);refine zN ?_)
 refine zC (fun h => ?_) (fun h => ?_)
 ·refine zS ?_
  have hlt : k < mS p := by simp at h;omega
  have e1 := prt_at (p := p) (n := n) hlt
  have e5 : (s.rd.getD n [])[k]? = some (bAt s.rd n k) := o9 false (by omega)
  refine zB ?_
  (refine zR ?_;(iterate 5 refine sA ?_);refine gF 1 ?_;(iterate 8 refine gA ?_);refine sA ?_;refine zN ?_)
  refine zC (fun h => ?_) (fun h => ?_)
  ·(refine zR ?_;refine sA ?_;refine zN ?_)
   have hr : allB p s n = false := by
    cases ha : allB p s n with
    | false => rfl
    | true =>
     rw [Bool.and_eq_true,Bool.not_eq_true'] at h
     have := uo.1 ha k hlt h.1
     rw [h.2] at this;cases this
   exact zT Tryz.results137
  refine zS ?_
  (refine zR ?_;(iterate 3 refine sA ?_);refine zN ?_)
  show ∃ _,_ ∧ _ ∧ _
  refine ⟨k + 1,⟨by omega,fun j hj hpj => ?_⟩,by omega,(Shift.sub [] rfl SubE.a SubH.nil)⟩
  by_cases e : j = k
  ·subst e
   rw [hpj] at h
   simpa using h
  ·exact hf j (by omega) hpj
 ·refine zE ?_
  have hk2 : k = mS p := by simp at h;omega
  subst hk2
  (refine zR ?_;refine sA ?_;refine zN ?_)
  have hr : allB p s n = true := uo.2 hf
  exact zT Tryz.results137
theorem R_may_fn (p : Plan) (s : StT) (kind : Int) (n k : Nat) (v : Valid p s) (hkd : kind = 1 ∨ kind = 2) (hn : n < nT p) (hk : k < mS p) : Fn CC 102 [planV p,stV s,IV.agg [IV.int kind,IV.int (n : Int),IV.int (k : Int)]] (IV.bool (mayB p s kind n k)) := by
 obtain ⟨hm,hm1,hm4,hn8,hall⟩ := oO v.plan
 obtain ⟨ht,hok⟩ := hall n hn
 have e1 := prt_at (p := p) (n := n) hk
 have e2 := act_at (p := p) (n := n) hk
 have e3 := v.shp.rd hn
 have e4 := v.shp.wr hn
 have e5 := v.shp.rdk hn hk
 have e6 := v.shp.wrk hn hk
 refine Fn.of_wp _ Tryz.func102 rfl (by kernel_rfl) Tryz.ntmps102 rfl ?_
 intro F hD hG
 (refine zR ?_;(iterate 4 refine sA ?_);refine zN ?_)
 (refine zR ?_;refine fd 0 ?_;(iterate 2 refine sA ?_);refine zN ?_)
 refine zC (fun h => ?_) (fun h => ?_)
 ·have h2 : kind = 2 := by simpa using h
  have hr : mayB p s kind n k = (act p n k && !bAt s.wr n k && allB p s n) := by unfold mayB;rw [if_neg (by omega),Bool.and_assoc]
  (refine zW ?_;refine sA ?_;refine fd 1 ?_;refine sA ?_;refine ALK.n (o3 (ub p (mS p) n (txN p n) hm hm1 hm4 (by omega) ht hok) (Evs.cons Ev.a (Evs.cons Ev.a Evs.nil))) rfl ?_;refine fd 2 ?_;(iterate 4 refine sA ?_);refine gF 2 ?_;refine gA ?_;refine gF 1 ?_;(iterate 3 refine gA ?_);refine gF 2 ?_;(iterate 4 refine gA ?_);(iterate 2 refine sA ?_);(iterate 2 refine gA ?_);refine gF 1 ?_;refine gA ?_;refine ALK.g (fun hb => o3 (R_allRead_fn p s n v.plan hn v.rdl (v.rdr n hn)) (Evs.cons Ev.a (Evs.cons Ev.a (Evs.cons Ev.a Evs.nil)))) rfl rfl rfl ?_;(iterate 2 refine sA ?_);refine zD ?_)
  exact zT Tryz.results102
 refine zS ?_
 have h1 : kind = 1 := by rcases hkd with h1 | h1;exact h1;(subst h1;simp at h)
 have hr : mayB p s kind n k = (prt p n k && (!bAt s.rd n k && freeB p s n k)) := by unfold mayB;rw [if_pos h1]
 clear h
 (refine zW ?_;refine sA ?_;refine fd 1 ?_;refine sA ?_;refine ALK.n (o3 (u9 p (mS p) n (txN p n) hm hm1 hm4 (by omega) ht hok) (Evs.cons Ev.a (Evs.cons Ev.a Evs.nil))) rfl ?_;refine fd 2 ?_;(iterate 5 refine sA ?_);refine gF 1 ?_;refine gA ?_;refine gF 1 ?_;(iterate 3 refine gA ?_);refine gF 2 ?_;(iterate 3 refine gA ?_);refine sA ?_;refine zD ?_)
 refine zC (fun h => ?_) (fun h => ?_)
 ·(refine zR ?_;refine sA ?_;refine zN ?_)
  have hr2 : mayB p s kind n k = false := by
   rw [hr];revert h
   generalize freeB p s n k = f
   cases prt p n k <;> cases bAt s.rd n k <;> simp
  exact zT Tryz.results102
 refine zS ?_
 have hr3 : mayB p s kind n k = freeB p s n k := by
  rw [hr];revert h
  generalize freeB p s n k = f
  cases prt p n k <;> cases bAt s.rd n k <;> simp
 (refine zR ?_;refine sA ?_;refine zN ?_)
 refine zB ?_
 refine WP.loop (fun j : Nat => ⟨[(7,.im (IV.int j)),(3,.im (IV.ptr (cP p))),(4,.im (IV.ptr (cSt s))),(5,.im (IV.ptr [IV.int kind,IV.int (n : Int),IV.int (k : Int)]))],[],0⟩) (fun j => j ≤ n ∧ ∀ i,i < j → (goneB p s i k || !byB (hereB (mS p) k) (txN p i) (txN p n)) = true) (fun j => n - j) 0 ⟨Nat.zero_le _,fun i hi => by omega⟩ (Shift.sub [] rfl SubE.a SubH.nil) ?_
 rintro j ⟨hj,hf⟩
 (refine zR ?_;refine sA ?_;refine fd 1 ?_;(iterate 2 refine sA ?_);refine zN ?_)
 refine zC (fun h => ?_) (fun h => ?_)
 ·refine zS ?_
  have hlt : j < n := by simp at h;omega
  obtain ⟨htj,hokj⟩ := hall j (by omega)
  have hcl := clash_here (m := mS p) (k := k) hokj hok
  have hg := j7 (p := p) (s := s) (n := j) (k := k)
  refine zB ?_
  (refine zW ?_;(iterate 3 refine sA ?_);refine fd 2 ?_;refine sA ?_;refine ALK.n (o3 (R_gone_fn p s j k v (by omega) hk) (Evs.cons Ev.a (Evs.cons Ev.a (Evs.cons Ev.a (Evs.cons Ev.a Evs.nil))))) rfl ?_;(iterate 2 refine sA ?_);refine gF 1 ?_;(iterate 4 refine gA ?_);refine gF 1 ?_;refine gA ?_;refine gF 1 ?_;(iterate 3 refine gA ?_);refine gF 0 ?_;refine gA ?_;refine gF 2 ?_;refine gA ?_;refine ALK.g (fun hb => o3 (clash_fn (txN p j) (txN p n) p.shards k (by omega)) (Evs.cons Ev.a (Evs.cons Ev.a (Evs.cons Ev.a (Evs.cons Ev.a Evs.nil))))) rfl rfl rfl ?_;refine sA ?_;refine zD ?_)
  rw [hm,← hcl]
  refine zC (fun h => ?_) (fun h => ?_)
  ·(refine zR ?_;refine sA ?_;refine zN ?_)
   have hr4 : mayB p s kind n k = false := by
    rw [hr3]
    rw [Bool.and_eq_true,Bool.not_eq_true'] at h
    exact freeB_at hlt h.1 h.2
   exact zT Tryz.results102
  refine zS ?_
  (refine zR ?_;(iterate 3 refine sA ?_);refine zN ?_)
  show ∃ _,_ ∧ _ ∧ _
  refine ⟨j + 1,⟨by omega,fun i hi => ?_⟩,by omega,(Shift.sub [] rfl SubE.a SubH.nil)⟩
  by_cases e : i = j
  ·subst e
   revert h
   generalize goneB p s i k = a
   generalize byB (hereB (mS p) k) (txN p i) (txN p n) = b
   cases a <;> cases b <;> simp
  ·exact hf i (by omega)
 ·refine zE ?_
  have hj2 : j = n := by simp at h;omega
  subst hj2
  (refine zR ?_;refine sA ?_;refine zN ?_)
  have hr4 : mayB p s kind j k = true := by
   rw [hr3]
   unfold freeB
   rw [List.all_eq_true]
   exact fun i hi => hf i (List.mem_range.1 hi)
  exact zT Tryz.results102
theorem fineB_iff {p : Plan} {s : StT} : fineB p s = true ↔ ∀ n,n < nT p → ∀ k,k < mS p → fineAt p s n k = true := by
 unfold fineB
 simp only [List.all_eq_true,List.mem_range]
theorem jr (p : Plan) (s : StT) (hB : TxsB p.txns) : Fn CC 99 [planV p,stV s] (IV.int (checkState p s)) := by
 refine Fn.of_wp _ Tryz.func99 rfl (by kernel_rfl) Tryz.ntmps99 rfl ?_
 intro F hD hG
 (refine zR ?_;(iterate 3 refine sA ?_);refine zN ?_)
 (refine zR ?_;refine sA ?_;refine ALK.n (o3 (qK p hB) (Evs.cons Ev.a Evs.nil)) rfl ?_;refine sA ?_;refine zN ?_)
 (refine zR ?_;(iterate 2 refine sA ?_);refine zN ?_)
 refine zC (fun h => ?_) (fun h => ?_)
 ·(refine zR ?_;(iterate 2 refine sA ?_);refine zN ?_)
  have hr : checkState p s = checkPlan p := by unfold checkState;rw [if_neg (by simpa using h)]
  rw [hr]
  exact zT Tryz.results99
 refine zS ?_
 have hp : checkPlan p = 0 := by simpa using h
 clear h
 obtain ⟨hm,hm1,hm4,hn8,hall⟩ := oO hp
 have hnT : nT p = p.txns.length := rfl
 (refine zR ?_;refine fd 0 ?_;refine sA ?_;refine ALK.n (o3 (vq s.store) (Evs.cons Ev.a Evs.nil)) rfl ?_;(iterate 2 refine sA ?_);refine gF 1 ?_;(iterate 2 refine gA ?_);refine gF 1 ?_;(iterate 3 refine gA ?_);(iterate 2 refine sA ?_);refine gF 2 ?_;(iterate 2 refine gA ?_);refine gF 1 ?_;(iterate 3 refine gA ?_);(iterate 2 refine sA ?_);refine gF 3 ?_;(iterate 2 refine gA ?_);refine gF 1 ?_;(iterate 3 refine gA ?_);refine sA ?_;refine zN ?_)
 refine zC (fun h => ?_) (fun h => ?_)
 ·(refine zR ?_;refine sA ?_;refine zN ?_)
  have hr : checkState p s = 1 := yK hp (by
   cases hs : shapeB p s with
   | false => rfl
   | true =>
    obtain ⟨a,b,c,d,_⟩ := y9.1 hs
    rw [a,b,c,d,hnT] at h
    simp at h)
  rw [hr]
  exact zT Tryz.results99
 refine zS ?_
 have hlens : s.store.length = 8 ∧ s.rd.length = nT p ∧ s.wr.length = nT p ∧ s.vals.length = nT p := by
  simp at h;omega
 clear h
 obtain ⟨l1,l2,l3,l4⟩ := hlens
 (refine zR ?_;refine sA ?_;refine zN ?_)
 refine zB ?_
 refine WP.loop (fun n : Nat => ⟨[(6,.im (IV.int n)),(2,.im (IV.ptr (cP p))),(3,.im (IV.ptr (cSt s)))],[],0⟩) (fun n => n ≤ nT p ∧ ∀ i,i < n → rowsOk p s i = true ∧ ∀ k,k < mS p → fineAt p s i k = true) (fun n => nT p - n) 0 ⟨Nat.zero_le _,fun i hi => by omega⟩ (Shift.sub [] rfl SubE.a SubH.nil) ?_
 rintro n ⟨hn,hf⟩
 (refine zR ?_;refine sA ?_;refine fd 1 ?_;(iterate 3 refine sA ?_);refine zN ?_)
 refine zC (fun h => ?_) (fun h => ?_)
 ·refine zS ?_
  have hlt : n < nT p := by simp at h;omega
  obtain ⟨ht,hok⟩ := hall n hlt
  have e1 : s.rd[n]? = some (s.rd.getD n []) := o9 [] (by omega)
  have e2 : s.wr[n]? = some (s.wr.getD n []) := o9 [] (by omega)
  have e3 : s.vals[n]? = some (s.vals.getD n []) := o9 [] (by omega)
  refine zB ?_
  (refine zW ?_;refine fd 1 ?_;(iterate 5 refine sA ?_);refine fd 0 ?_;(iterate 3 refine sA ?_);refine gF 2 ?_;(iterate 5 refine gA ?_);refine gF 0 ?_;(iterate 2 refine gA ?_);(iterate 2 refine sA ?_);refine gF 3 ?_;(iterate 5 refine gA ?_);refine gF 1 ?_;(iterate 3 refine gA ?_);refine gF 0 ?_;(iterate 3 refine gA ?_);refine sA ?_;refine zD ?_)
  have hq := ur (p := p) (s := s) (n := n)
  refine zC (fun h => ?_) (fun h => ?_)
  ·(refine zR ?_;refine sA ?_;refine zN ?_)
   have hr : checkState p s = 1 := yK hp (by
    have : shapeB p s = false := shape_no hlt (by
     cases hs : rowsOk p s n with
     | false => rfl
     | true =>
      obtain ⟨a,b,c⟩ := hq.1 hs
      rw [a,b,c] at h
      simp at h;omega)
    rw [this];rfl)
   rw [hr]
   exact zT Tryz.results99
  refine zS ?_
  have hrow : (s.rd.getD n []).length = mS p ∧ (s.wr.getD n []).length = mS p ∧ (s.vals.getD n []).length = (txN p n).reads.length := by
   generalize (s.rd.getD n []).length = a at h ⊢
   generalize (s.wr.getD n []).length = b at h ⊢
   generalize (s.vals.getD n []).length = c at h ⊢
   simp at h
   omega
  clear h
  obtain ⟨r1,r2,r3⟩ := hrow
  (refine zW ?_;(iterate 2 refine sA ?_);refine ALK.n (o3 (u9 p (mS p) n (txN p n) hm hm1 hm4 (by omega) ht hok) (Evs.cons Ev.a (Evs.cons Ev.a Evs.nil))) rfl ?_;(iterate 2 refine sA ?_);refine ALK.n (o3 (ub p (mS p) n (txN p n) hm hm1 hm4 (by omega) ht hok) (Evs.cons Ev.a (Evs.cons Ev.a Evs.nil))) rfl ?_;(iterate 2 refine sA ?_);refine zD ?_)
  (refine zR ?_;refine sA ?_;refine zN ?_)
  refine zB ?_
  refine WP.loop (fun k : Nat => ⟨[(9,.im (IV.int k)),(7,.im (boolsV (partL (mS p) (txN p n)))),(8,.im (boolsV (actL (mS p) (txN p n)))),(6,.im (IV.int n)),(2,.im (IV.ptr (cP p))),(3,.im (IV.ptr (cSt s)))],[],0⟩) (fun k => k ≤ mS p ∧ ∀ j,j < k → fineAt p s n j = true) (fun k => mS p - k) 0 ⟨Nat.zero_le _,fun i hi => by omega⟩ (Shift.sub [] rfl SubE.a SubH.nil) ?_
  rintro k ⟨hk,hg⟩
  (refine zR ?_;refine sA ?_;refine fd 0 ?_;(iterate 2 refine sA ?_);refine zN ?_)
  refine zC (fun h => ?_) (fun h => ?_)
  ·refine zS ?_
   have hkm : k < mS p := by simp at h;omega
   have e4 := prt_at (p := p) (n := n) hkm
   have e5 := act_at (p := p) (n := n) hkm
   have e6 : (s.rd.getD n [])[k]? = some (bAt s.rd n k) := o9 false (by omega)
   have e7 : (s.wr.getD n [])[k]? = some (bAt s.wr n k) := o9 false (by omega)
   have hq : fineAt p s n k = !((bAt s.rd n k && !prt p n k) || (bAt s.wr n k && (!act p n k || !allB p s n))) := rfl
   refine zB ?_
   (refine zR ?_;refine fd 1 ?_;(iterate 8 refine sA ?_);(iterate 5 refine gA ?_);(iterate 2 refine sA ?_);refine gF 2 ?_;(iterate 17 refine gA ?_);refine ALK.g2 (fun hb => o3 (R_allRead_fn p s n hp hlt l2 r1) (Evs.cons Ev.a (Evs.cons Ev.a (Evs.cons Ev.a Evs.nil)))) rfl rfl rfl ?_;refine gA ?_;refine ALK.g2 (fun hb => ue (eC rfl hb) rfl rfl (fun hb2 => by first | (rw [hb2];rfl) | (rw [hb,hb2];rfl) | simp_all [gd])) rfl rfl rfl ?_;refine ALK.g (fun hb => oU (eC rfl hb) rfl (fun hb2 => by first | exact hb2 | (rw [hb,hb2];rfl) | simp_all [gd]) rfl) rfl rfl rfl ?_;refine sA ?_;refine zN ?_)
   refine zC (fun h => ?_) (fun h => ?_)
   ·(refine zR ?_;refine sA ?_;refine zN ?_)
    have hr : checkState p s = 1 := yK hp (by
     have : fineB p s = false := fineB_at hlt hkm (by
      rw [hq]
      generalize bAt s.rd n k = a at h ⊢;generalize prt p n k = b at h ⊢;generalize bAt s.wr n k = c at h ⊢;generalize act p n k = d at h ⊢;generalize allB p s n = e at h ⊢
      revert h;cases a <;> cases b <;> cases c <;> cases d <;> cases e <;> simp)
     rw [this,Bool.and_false])
    rw [hr]
    exact zT Tryz.results99
   refine zS ?_
   (refine zR ?_;(iterate 3 refine sA ?_);refine zN ?_)
   show ∃ _,_ ∧ _ ∧ _
   refine ⟨k + 1,⟨by omega,fun j hj => ?_⟩,by omega,(Shift.sub [] rfl SubE.a SubH.nil)⟩
   by_cases e : j = k
   ·subst e
    rw [hq]
    generalize bAt s.rd n j = a at h ⊢;generalize prt p n j = b at h ⊢;generalize bAt s.wr n j = c at h ⊢;generalize act p n j = d at h ⊢;generalize allB p s n = e at h ⊢
    revert h;cases a <;> cases b <;> cases c <;> cases d <;> cases e <;> simp
   ·exact hg j (by omega)
  ·refine zE ?_
   have hkm : k = mS p := by simp at h;omega
   subst hkm
   (refine zR ?_;(iterate 3 refine sA ?_);refine zN ?_)
   show ∃ _,_ ∧ _ ∧ _
   refine ⟨n + 1,⟨by omega,fun i hi => ?_⟩,by omega,(Shift.sub [] rfl SubE.a SubH.nil)⟩
   by_cases e : i = n
   ·subst e;exact ⟨ur.2 ⟨r1,r2,r3⟩,hg⟩
   ·exact hf i (by omega)
 ·refine zE ?_
  have hn2 : n = nT p := by simp at h;omega
  subst hn2
  (refine zR ?_;refine sA ?_;refine zN ?_)
  have hs : shapeB p s = true := y9.2 ⟨l1,l2,l3,l4,fun i hi => ur.1 (hf i hi).1⟩
  have hr : checkState p s = 0 := by
   unfold checkState
   rw [if_pos hp,if_pos (by rw [hs,fineB_iff.2 fun i hi => (hf i hi).2];rfl)]
  rw [hr]
  exact zT Tryz.results99
theorem vd (p : Plan) (s : StT) (v : Valid p s) : Fn CC 67 [planV p,stV s] (IV.bool (overB p s)) := by
 obtain ⟨hm,hm1,hm4,hn8,hall⟩ := oO v.plan
 have hnT : nT p = p.txns.length := rfl
 refine Fn.of_wp _ Tryz.func67 rfl (by kernel_rfl) Tryz.ntmps67 rfl ?_
 intro F hD hG
 (refine zR ?_;(iterate 3 refine sA ?_);refine zN ?_)
 (refine zR ?_;refine sA ?_;refine zN ?_)
 refine zB ?_
 refine WP.loop (fun n : Nat => ⟨[(5,.im (IV.int n)),(2,.im (IV.ptr (cP p))),(3,.im (IV.ptr (cSt s)))],[],0⟩) (fun n => n ≤ nT p ∧ ∀ i,i < n → ∀ k,k < mS p → goneB p s i k = true) (fun n => nT p - n) 0 ⟨Nat.zero_le _,fun i hi => by omega⟩ (Shift.sub [] rfl SubE.a SubH.nil) ?_
 rintro n ⟨hn,hf⟩
 (refine zR ?_;refine sA ?_;refine fd 1 ?_;(iterate 3 refine sA ?_);refine zN ?_)
 refine zC (fun h => ?_) (fun h => ?_)
 ·refine zS ?_
  have hlt : n < nT p := by simp at h;omega
  refine zB ?_
  (refine zR ?_;refine sA ?_;refine zN ?_)
  refine zB ?_
  refine WP.loop (fun k : Nat => ⟨[(6,.im (IV.int k)),(5,.im (IV.int n)),(2,.im (IV.ptr (cP p))),(3,.im (IV.ptr (cSt s)))],[],0⟩) (fun k => k ≤ mS p ∧ ∀ j,j < k → goneB p s n j = true) (fun k => mS p - k) 0 ⟨Nat.zero_le _,fun i hi => by omega⟩ (Shift.sub [] rfl SubE.a SubH.nil) ?_
  rintro k ⟨hk,hg⟩
  (refine zR ?_;refine sA ?_;refine fd 0 ?_;(iterate 2 refine sA ?_);refine zN ?_)
  refine zC (fun h => ?_) (fun h => ?_)
  ·refine zS ?_
   have hkm : k < mS p := by simp at h;omega
   refine zB ?_
   (refine zR ?_;(iterate 4 refine sA ?_);refine ALK.n (o3 (R_gone_fn p s n k v hlt hkm) (Evs.cons Ev.a (Evs.cons Ev.a (Evs.cons Ev.a (Evs.cons Ev.a Evs.nil))))) rfl ?_;refine sA ?_;refine zN ?_)
   refine zC (fun h => ?_) (fun h => ?_)
   ·(refine zR ?_;refine sA ?_;refine zN ?_)
    have hr : overB p s = false := by
     cases ho : overB p s with
     | false => rfl
     | true => rw [qG.1 ho n k hlt hkm] at h;cases h
    exact zT Tryz.results67
   refine zS ?_
   (refine zR ?_;(iterate 3 refine sA ?_);refine zN ?_)
   show ∃ _,_ ∧ _ ∧ _
   refine ⟨k + 1,⟨by omega,fun j hj => ?_⟩,by omega,(Shift.sub [] rfl SubE.a SubH.nil)⟩
   by_cases e : j = k
   ·subst e;simpa using h
   ·exact hg j (by omega)
  ·refine zE ?_
   have hkm : k = mS p := by simp at h;omega
   subst hkm
   (refine zR ?_;(iterate 3 refine sA ?_);refine zN ?_)
   show ∃ _,_ ∧ _ ∧ _
   refine ⟨n + 1,⟨by omega,fun i hi => ?_⟩,by omega,(Shift.sub [] rfl SubE.a SubH.nil)⟩
   by_cases e : i = n
   ·subst e;exact hg
   ·exact hf i (by omega)
 ·refine zE ?_
  have hn2 : n = nT p := by simp at h;omega
  subst hn2
  (refine zR ?_;refine sA ?_;refine zN ?_)
  have hr : overB p s = true := qG.2 fun i j hi hj => hf i hi j hj
  exact zT Tryz.results67
theorem CanOf_fn (p : Plan) (s : StT) (v : Valid p s) : Fn CC 69 [planV p,stV s] (stpsV (canL p s)) := by
 obtain ⟨hm,hm1,hm4,hn8,hall⟩ := oO v.plan
 have hnT : nT p = p.txns.length := rfl
 have hmn : nT p * mS p ≤ 8 * 4 := Nat.mul_le_mul hn8 hm4
 refine Fn.of_wp _ Tryz.func69 rfl (by kernel_rfl) Tryz.ntmps69 rfl ?_
 intro F hD hG
 (refine zR ?_;(iterate 3 refine sA ?_);refine zN ?_)
 (refine zR ?_;refine sA ?_;refine zN ?_)
 refine WP.shift (Shift.row0 5 135 3 cStp (fun _ => rfl) rfl) ?_
 (refine zR ?_;refine sA ?_;refine zN ?_)
 refine zB ?_
 refine WP.loop (fun c : Nat => ⟨[(6,.im (IV.int c)),(5,.row 0 (canTo p s c).length),(2,.im (IV.ptr (cP p))),(3,.im (IV.ptr (cSt s)))],[(0,.row 135 3 cStp (canTo p s c))],1⟩) (fun c => 1 ≤ c ∧ c ≤ 3) (fun c => 3 - c) 1 ⟨by omega,by omega⟩ (Shift.sub [(0,0)] rfl SubE.a (SubH.cons rfl rfl (ObLe.row rfl) SubH.nil)) ?_
 rintro c ⟨hc1,hc3⟩
 have hL := canTo_len (p := p) (s := s) hm4 hn8 c
 (refine zR ?_;(iterate 2 refine sA ?_);refine zN ?_)
 refine zC (fun h => ?_) (fun h => ?_)
 ·refine zS ?_
  have hc2 : c ≤ 2 := by simp at h;omega
  have hkd : (c : Int) = 1 ∨ (c : Int) = 2 := by omega
  have hcn := canTo_next (p := p) (s := s) hc1 hc2
  refine zB ?_
  (refine zR ?_;refine sA ?_;refine zN ?_)
  refine zB ?_
  refine WP.loop (fun n : Nat => ⟨[(7,.im (IV.int n)),(6,.im (IV.int c)),(5,.row 0 (canTo p s c ++ canKind p s c n).length),(2,.im (IV.ptr (cP p))),(3,.im (IV.ptr (cSt s)))],[(0,.row 135 3 cStp (canTo p s c ++ canKind p s c n))],1⟩) (fun n => n ≤ nT p) (fun n => nT p - n) 0 (Nat.zero_le _) (Shift.sub [(0,0)] rfl (by repeat (first | exact SubE.nil | refine SubE.cons rfl (by first | exact SLe.row rfl (by simp [canKind];done) | exact SLe.a) ?_)) (SubH.cons rfl rfl (ObLe.row (by simp [canKind])) SubH.nil)) ?_
  rintro n hn
  have hK := uh p s c n
  have hnm : n * mS p ≤ nT p * mS p := Nat.mul_le_mul_right _ hn
  (refine zR ?_;refine sA ?_;refine fd 1 ?_;(iterate 3 refine sA ?_);refine zN ?_)
  refine zC (fun h => ?_) (fun h => ?_)
  ·refine zS ?_
   have hlt : n < nT p := by simp at h;omega
   have hkn := uQ p s c n
   refine zB ?_
   (refine zR ?_;refine sA ?_;refine zN ?_)
   refine zB ?_
   refine WP.loop (fun k : Nat => ⟨[(8,.im (IV.int k)),(7,.im (IV.int n)),(6,.im (IV.int c)),(5,.row 0 (canTo p s c ++ canKind p s c n ++ canRow p s c n k).length),(2,.im (IV.ptr (cP p))),(3,.im (IV.ptr (cSt s)))],[(0,.row 135 3 cStp (canTo p s c ++ canKind p s c n ++ canRow p s c n k))],1⟩) (fun k => k ≤ mS p) (fun k => mS p - k) 0 (Nat.zero_le _) (Shift.sub [(0,0)] rfl (by repeat (first | exact SubE.nil | refine SubE.cons rfl (by first | exact SLe.row rfl (by simp [canRow];done) | exact SLe.a) ?_)) (SubH.cons rfl rfl (ObLe.row (by simp [canRow])) SubH.nil)) ?_
   rintro k hk
   have hR := j0 p s c n k
   have hal : (canTo p s c ++ canKind p s c n ++ canRow p s c n k).length ≤ 200 := by rw [List.length_append,List.length_append];omega
   (refine zR ?_;refine sA ?_;refine fd 0 ?_;(iterate 2 refine sA ?_);refine zN ?_)
   refine zC (fun h => ?_) (fun h => ?_)
   ·refine zS ?_
    have hkm : k < mS p := by simp at h;omega
    have hrn := jw p s c n k
    refine zB ?_
    (refine zR ?_;(iterate 6 refine sA ?_);refine zN ?_)
    refine WP.shift (Shift.frzBlk 9 rfl rfl rfl) ?_
    (refine zR ?_;(iterate 3 refine sA ?_);refine ALK.n (o3 (R_may_fn p s c n k v hkd hlt hkm) (Evs.cons Ev.a (Evs.cons Ev.a (Evs.cons Ev.a Evs.nil)))) rfl ?_;refine zN ?_)
    refine zC (fun h => ?_) (fun h => ?_)
    ·rw [if_pos h] at hrn
     have hn2 : canTo p s c ++ canKind p s c n ++ canRow p s c n (k + 1) = canTo p s c ++ canKind p s c n ++ canRow p s c n k ++ [(⟨c,n,k⟩ : StepT)] := by rw [hrn,← List.append_assoc]
     (refine zR ?_;(iterate 2 refine sA ?_);refine ALK.n (o6 rfl rfl rfl rfl rfl rfl (Pc rfl (eB rfl) Cs.a rfl rfl Parts.nil) rfl) rfl ?_;refine ALK.e (o8 (b := 24) [(⟨c,n,k⟩ : StepT)] rfl rfl rfl rfl rfl (eB rfl) (eB rfl) rfl rfl (by simp only [List.length_cons,List.length_nil];omega) rfl) rfl rfl ?_;refine sA ?_;refine zN ?_)
     (refine zR ?_;(iterate 3 refine sA ?_);refine zN ?_)
     show ∃ _,_ ∧ _ ∧ _
     exact ⟨k + 1,by omega,by omega,Shift.sub [(0,2)] rfl (by repeat (first | exact SubE.nil | refine SubE.cons rfl (by first | exact SLe.row rfl (by simp only [hn2,List.length_append];done) | exact SLe.a) ?_)) (SubH.cons rfl rfl (ObLe.row hn2.symm) SubH.nil)⟩
    ·rw [if_neg (by rw [h];simp),List.append_nil] at hrn
     refine zS ?_
     (refine zR ?_;(iterate 3 refine sA ?_);refine zN ?_)
     show ∃ _,_ ∧ _ ∧ _
     rw [← hrn]
     exact ⟨k + 1,by omega,by omega,(Shift.sub [(0,0)] rfl SubE.a SubH.a)⟩
   ·refine zE ?_
    have hkm : k = mS p := by simp at h;omega
    subst hkm
    have hx : canTo p s c ++ canKind p s c (n + 1) = canTo p s c ++ canKind p s c n ++ canRow p s c n (mS p) := by rw [hkn,List.append_assoc]
    (refine zR ?_;(iterate 3 refine sA ?_);refine zN ?_)
    show ∃ _,_ ∧ _ ∧ _
    rw [← hx]
    exact ⟨n + 1,by omega,by omega,(Shift.sub [(0,0)] rfl SubE.a SubH.a)⟩
  ·refine zE ?_
   have hn2 : n = nT p := by simp at h;omega
   subst hn2
   rw [← hcn]
   (refine zR ?_;(iterate 3 refine sA ?_);refine zN ?_)
   show ∃ _,_ ∧ _ ∧ _
   exact ⟨c + 1,⟨by omega,by omega⟩,by omega,(Shift.sub [(0,0)] rfl SubE.a SubH.a)⟩
 ·refine zE ?_
  have hc : c = 3 := by simp at h;omega
  subst hc
  have hx : canTo p s 3 = canL p s := rfl
  rw [hx]
  refine WP.shift (Shift.frzRow 5 rfl rfl) ?_
  (refine zR ?_;(iterate 2 refine sA ?_);refine zN ?_)
  exact zT Tryz.results69
end Go.Proofs.YtjgmbgfcffnanaaGreatDoor
