/- The reference's DoOf, Rest, PlayOf and ResultsOf. Results, of what is over, in the program and in the reference. The reference's Audit and Reads. The reference: what a line gives. -/
import Derived.Test.YtjgmbgfcffnanaaGreatDoorZ26
set_option maxRecDepth 100000
set_option maxHeartbeats 4000000
namespace Go.Proofs.YtjgmbgfcffnanaaGreatDoor
open Go.RowKit
theorem DoOf_fn (p : Plan) (s : StT) (x : StepT) (hB : TxsB p.txns) : Fn CC 66 [planV p,stV s,stpV x] (IV.tup [stV (doS p s x),IV.int (doE p s x)]) := by
 obtain ⟨kind,tn,sh⟩ := x
 have hx0 : ∀ e,¬ e = 0 → doE p s ⟨kind,tn,sh⟩ = e → doS p s ⟨kind,tn,sh⟩ = st0 := fun e h1 h2 => by unfold doS;rw [h2,if_neg h1]
 refine Fn.of_wp _ Tryz.func66 rfl (by kernel_rfl) Tryz.ntmps66 rfl ?_
 intro F hD hG
 show WP _ _ _ _ _ ⟨[(0,.im (planV p)),(1,.im (stV s)),(2,.im (IV.agg [IV.int kind,IV.int tn,IV.int sh]))],[],0⟩
 (refine zR ?_;(iterate 5 refine sA ?_);refine zN ?_)
 (refine zR ?_;(iterate 2 refine sA ?_);refine ALK.n (o3 (jr p s hB) (Evs.cons Ev.a (Evs.cons Ev.a Evs.nil))) rfl ?_;refine sA ?_;refine zN ?_)
 (refine zR ?_;(iterate 2 refine sA ?_);refine zN ?_)
 refine zC (fun h => ?_) (fun h => ?_)
 ·have hne : ¬ checkState p s = 0 := by simpa using h
  have hr : doE p s ⟨kind,tn,sh⟩ = checkState p s := by unfold doE;rw [if_neg hne]
  rw [hx0 _ hne hr,hr]
  (refine zR ?_;(iterate 4 refine sA ?_);refine zN ?_)
  exact zT Tryz.results66
 refine zS ?_
 have h0 : checkState p s = 0 := by simpa using h
 have v := ud.1 h0
 obtain ⟨hm,hm1,hm4,hn8,hall⟩ := oO v.plan
 have hnT : nT p = p.txns.length := rfl
 have hd : doE p s ⟨kind,tn,sh⟩ = if kind = 1 ∨ kind = 2 then
  if tn < 0 ∨ (nT p : Int) ≤ tn ∨ sh < 0 ∨ (mS p : Int) ≤ sh then 5
  else if hasX p ⟨kind,tn,sh⟩ = false then 5 else if didX s ⟨kind,tn,sh⟩ = true then 7 else if mayB p s kind tn.toNat sh.toNat = false then 6 else 0
  else 4 := by unfold doE;rw [if_pos h0]
 clear h
 (refine zR ?_;refine fd 0 ?_;(iterate 3 refine sA ?_);refine gF 0 ?_;(iterate 2 refine gA ?_);refine sA ?_;refine zN ?_)
 refine zC (fun h => ?_) (fun h => ?_)
 ·have hr : doE p s ⟨kind,tn,sh⟩ = 4 := by
   rw [hd,if_neg]
   simp at h;omega
  rw [hx0 _ (by omega) hr,hr]
  (refine zR ?_;(iterate 3 refine sA ?_);refine zN ?_)
  exact zT Tryz.results66
 refine zS ?_
 have hkd : kind = 1 ∨ kind = 2 := by simp at h;omega
 rw [if_pos hkd] at hd
 clear h
 (refine zR ?_;refine fd 1 ?_;refine sA ?_;refine fd 1 ?_;(iterate 3 refine sA ?_);refine ALK.n (o3 (uZ _ _ _) (Evs.cons Ev.a (Evs.cons Ev.a (Evs.cons Ev.a Evs.nil)))) rfl ?_;(iterate 2 refine sA ?_);refine gF 2 ?_;refine gA ?_;refine gF 0 ?_;(iterate 2 refine gA ?_);refine ALK.g (fun hb => o3 (uZ _ _ _) (Evs.cons Ev.a (Evs.cons Ev.a (Evs.cons Ev.a Evs.nil)))) rfl rfl rfl ?_;refine gA ?_;refine sA ?_;refine zN ?_)
 refine zC (fun h => ?_) (fun h => ?_)
 ·have hr : doE p s ⟨kind,tn,sh⟩ = 5 := by
   rw [hd,if_pos]
   simp at h;omega
  rw [hx0 _ (by omega) hr,hr]
  (refine zR ?_;(iterate 3 refine sA ?_);refine zN ?_)
  exact zT Tryz.results66
 refine zS ?_
 have hrange : ¬ (tn < 0 ∨ (nT p : Int) ≤ tn ∨ sh < 0 ∨ (mS p : Int) ≤ sh) := by simp at h;omega
 rw [if_neg hrange] at hd
 clear h
 obtain ⟨n,rfl⟩ : ∃ n : Nat,tn = n := ⟨tn.toNat,by omega⟩
 obtain ⟨k,rfl⟩ : ∃ k : Nat,sh = k := ⟨sh.toNat,by omega⟩
 have hn : n < nT p := by omega
 have hk : k < mS p := by omega
 obtain ⟨ht,hok⟩ := hall n hn
 have e1 := prt_at (p := p) (n := n) hk
 have e2 := act_at (p := p) (n := n) hk
 have e3 := v.shp.rd hn
 have e4 := v.shp.wr hn
 have e5 := v.shp.rdk hn hk
 have e6 := v.shp.wrk hn hk
 (refine zW ?_;refine fd 1 ?_;refine sA ?_;refine fd 1 ?_;(iterate 3 refine sA ?_);refine fd 2 ?_;(iterate 4 refine sA ?_);refine zD ?_)
 (refine zW ?_;refine sA ?_;refine fd 1 ?_;refine sA ?_;refine ALK.n (o3 (u9 p (mS p) n (txN p n) hm hm1 hm4 (by omega) ht hok) (Evs.cons Ev.a (Evs.cons Ev.a Evs.nil))) rfl ?_;refine fd 2 ?_;(iterate 4 refine sA ?_);refine zD ?_)
 (refine zR ?_;refine fd 0 ?_;(iterate 2 refine sA ?_);refine zN ?_)
 ((repeat apply WP.seq);refine WP.qshift (⟨[(10,.im (IV.bool (hasX p ⟨kind,n,k⟩))),(9,.im (IV.bool (didX s ⟨kind,n,k⟩))),(3,.im (IV.ptr (cP p))),(4,.im (IV.ptr (cSt s))),(5,.im (IV.ptr [IV.int kind,IV.int (n : Int),IV.int (k : Int)])),(6,.off 0 0)],[(0,.blk 38 [.im (IV.val (.slice none 0 0)),.im (IV.val (.slice none 0 0)),.im (IV.val (.slice none 0 0)),.im (IV.val (.slice none 0 0))])],1⟩) (WP.cond rfl (fun h => ?_) (fun h => ?_)) ?_)
 ·have hk2 : kind = 2 := by simpa using h
  have a1 : hasX p ⟨kind,n,k⟩ = act p n k := by unfold hasX;rw [if_pos hk2];rfl
  have a2 : didX s ⟨kind,n,k⟩ = bAt s.wr n k := by unfold didX;rw [if_pos hk2];rfl
  (refine zW ?_;refine fd 2 ?_;refine sA ?_;refine fd 1 ?_;(iterate 3 refine sA ?_);refine fd 2 ?_;(iterate 4 refine sA ?_);refine zD ?_)
  (refine zW ?_;refine sA ?_;refine fd 1 ?_;refine sA ?_;refine ALK.n (o3 (ub p (mS p) n (txN p n) hm hm1 hm4 (by omega) ht hok) (Evs.cons Ev.a (Evs.cons Ev.a Evs.nil))) rfl ?_;refine fd 2 ?_;(iterate 4 refine sA ?_);refine zD ?_)
  show Shift _ _ _ _
  exact Shift.sub [(0,0)] rfl (SubE.cons rfl (SLe.im (ILe.bool a1.symm)) (SubE.cons rfl (SLe.im (ILe.bool a2.symm)) SubE.a)) SubH.a
 ·have hk2 : ¬ kind = 2 := by simpa using h
  have a1 : hasX p ⟨kind,n,k⟩ = prt p n k := by unfold hasX;rw [if_neg hk2];rfl
  have a2 : didX s ⟨kind,n,k⟩ = bAt s.rd n k := by unfold didX;rw [if_neg hk2];rfl
  refine WP.skip ?_;show Shift _ _ _ _
  exact Shift.sub [(0,0)] rfl (SubE.cons rfl (SLe.im (ILe.bool a1.symm)) (SubE.cons rfl (SLe.im (ILe.bool a2.symm)) SubE.a)) SubH.a
 refine zB ?_
 (refine zR ?_;(iterate 3 refine sA ?_);refine zN ?_)
 refine zC (fun h => ?_) (fun h => ?_)
 ·have hr : doE p s ⟨kind,n,k⟩ = 5 := by rw [hd,if_pos (by simpa using h)]
  rw [hx0 _ (by omega) hr,hr]
  (refine zR ?_;(iterate 3 refine sA ?_);refine zN ?_)
  exact zT Tryz.results66
 rw [if_neg (by simpa using h)] at hd
 clear h
 (refine zR ?_;(iterate 2 refine sA ?_);refine zN ?_)
 refine zC (fun h => ?_) (fun h => ?_)
 ·have hr : doE p s ⟨kind,n,k⟩ = 7 := by rw [hd,if_pos (by simpa using h)]
  rw [hx0 _ (by omega) hr,hr]
  (refine zR ?_;(iterate 3 refine sA ?_);refine zN ?_)
  exact zT Tryz.results66
 rw [if_neg (by simpa using h)] at hd
 clear h
 (refine zR ?_;(iterate 3 refine sA ?_);refine ALK.n (o3 (R_may_fn p s kind n k v hkd hn hk) (Evs.cons Ev.a (Evs.cons Ev.a (Evs.cons Ev.a Evs.nil)))) rfl ?_;(iterate 2 refine sA ?_);refine zN ?_)
 refine zC (fun h => ?_) (fun h => ?_)
 ·have hr : doE p s ⟨kind,n,k⟩ = 6 := by rw [hd];exact if_pos (by simpa using h)
  rw [hx0 _ (by omega) hr,hr]
  (refine zR ?_;(iterate 3 refine sA ?_);refine zN ?_)
  exact zT Tryz.results66
 have hmay : mayB p s kind n k = true := by simpa using h
 have hstep : Step p s kind n k := ⟨hkd,hn,hk,hmay⟩
 have hr : doE p s ⟨kind,n,k⟩ = 0 := by rw [hd];exact if_neg (by rw [Int.toNat_natCast,Int.toNat_natCast,hmay];simp)
 have hr2 : doS p s ⟨kind,n,k⟩ = turnS p s kind n k := by unfold doS;rw [if_pos hr];rfl
 clear h
 rw [hr2,hr]
 refine zS ?_
 (refine zR ?_;(iterate 3 refine sA ?_);refine ALK.n (o3 (R_done_fn p s kind n k v hB hstep) (Evs.cons Ev.a (Evs.cons Ev.a (Evs.cons Ev.a Evs.nil)))) rfl ?_;(iterate 2 refine sA ?_);refine zN ?_)
 exact zT Tryz.results66
theorem Rest_fn (p : Plan) (s0 : StT) (v0 : Valid p s0) (hB : TxsB p.txns) : Fn CC 70 [planV p,stV s0] (IV.tup [stV (onF p [] s0 0).1,IV.int ((onF p [] s0 0).2 : Int)]) := by
 have h64 := togo_le v0
 refine Fn.of_wp _ Tryz.func70 rfl (by kernel_rfl) Tryz.ntmps70 rfl ?_
 intro F hD hG
 (refine zR ?_;refine sA ?_;refine ALK.a (uT (eB rfl) Cs.a) rfl ?_;(iterate 2 refine sA ?_);refine zN ?_)
 (refine zR ?_;refine sA ?_;refine zN ?_)
 refine zB ?_
 refine WP.loop (fun c : StT × Nat => ⟨[(6,.im (IV.int c.2)),(2,.im (IV.ptr (cP p))),(3,.off 0 0),(4,.off 1 0)],[(0,.blk 38 [.im (intsV c.1.store),.im (bbV c.1.rd),.im (bbV c.1.wr),.im (iiV c.1.vals)]),(1,.blk 38 [.im (IV.val (.slice none 0 0)),.im (IV.val (.slice none 0 0)),.im (IV.val (.slice none 0 0)),.im (IV.val (.slice none 0 0))])],2⟩) (fun c => Valid p c.1 ∧ onF p [] c.1 c.2 = onF p [] s0 0 ∧ c.2 + togo p c.1 ≤ 64) (fun c => togo p c.1) (s0,0) ⟨v0,rfl,by simp only;omega⟩ (Shift.sub [(0,0),(1,1)] rfl SubE.a (SubH.cons rfl rfl (ObLe.blk SLes.a) (SubH.cons rfl rfl (ObLe.blk SLes.a) SubH.nil))) ?_
 rintro ⟨s,n⟩ ⟨v,he,hn⟩
 simp only at v he hn
 (refine zR ?_;(iterate 2 refine sA ?_);refine ALK.n (o3 (vd p s v) (Evs.cons Ev.a (Evs.cons Ev.a Evs.nil))) rfl ?_;refine sA ?_;refine zN ?_)
 refine zC (fun h => ?_) (fun h => ?_)
 ·refine zS ?_
  have ho : overB p s = false := by simpa using h
  obtain ⟨v2,ht,hgo⟩ := onF_go (picks := []) (n := n) v ho
  obtain ⟨x,hx,hnx,hat,hlen⟩ := nxt_at v ho [] n
  have hz : (pickN [] n % ((canL p s).length : Int)).toNat = 0 := by
   have : pickN [] n = 0 := by simp [pickN]
   rw [this];simp
  rw [hz] at hat
  obtain ⟨hst,a1,a2,a3,a4⟩ := Step.of_mem hx
  obtain ⟨kind,tn,sh⟩ := x
  simp only at a1 a2 a3 a4 hst
  obtain ⟨i,rfl⟩ : ∃ i : Nat,tn = i := ⟨tn.toNat,by omega⟩
  obtain ⟨k,rfl⟩ : ∃ k : Nat,sh = k := ⟨sh.toNat,by omega⟩
  have hnx2 : nxt p [] s n = turnS p s kind i k := hnx
  have hst2 : Step p s kind i k := hst
  refine zB ?_
  (refine zW ?_;(iterate 4 refine sA ?_);refine ALK.n (o3 (CanOf_fn p s v) (Evs.cons Ev.a (Evs.cons Ev.a Evs.nil))) rfl ?_;refine ALK.n (o7 (i := 0) rfl (eB rfl) (eB rfl) (by omega) hat) rfl ?_;refine sA ?_;refine ALK.n (o3 (R_done_fn p s kind i k v hB hst2) (Evs.cons Ev.a (Evs.cons Ev.a (Evs.cons Ev.a Evs.nil)))) rfl ?_;refine sA ?_;refine zD ?_)
  (refine zR ?_;(iterate 3 refine sA ?_);refine zN ?_)
  show ∃ _,_ ∧ _ ∧ _
  rw [hgo,hnx2] at he
  rw [hnx2] at v2 ht
  exact ⟨(turnS p s kind i k,n + 1),⟨v2,he,by simp only;omega⟩,by simp only;omega,Shift.sub [(0,0),(1,1)] rfl SubE.a (SubH.cons rfl rfl (ObLe.blk SLes.a) (SubH.cons rfl rfl (ObLe.blk SLes.a) SubH.nil))⟩
 ·refine zE ?_
  have ho : overB p s = true := by simpa using h
  rw [onF_over ho] at he
  rw [← he]
  (refine zR ?_;(iterate 4 refine sA ?_);refine zN ?_)
  exact zT Tryz.results70
theorem ResultsOf_fn (p : Plan) (s : StT) (hB : TxsB p.txns) : Fn CC 71 [planV p,stV s] (IV.tup [ressV (resR p s),IV.int (resE p s)]) := by
 refine Fn.of_wp _ Tryz.func71 rfl (by kernel_rfl) Tryz.ntmps71 rfl ?_
 intro F hD hG
 (refine zR ?_;(iterate 4 refine sA ?_);refine zN ?_)
 (refine zR ?_;(iterate 2 refine sA ?_);refine ALK.n (o3 (jr p s hB) (Evs.cons Ev.a (Evs.cons Ev.a Evs.nil))) rfl ?_;refine sA ?_;refine zN ?_)
 (refine zR ?_;(iterate 2 refine sA ?_);refine zN ?_)
 refine zC (fun h => ?_) (fun h => ?_)
 ·(refine zR ?_;(iterate 3 refine sA ?_);refine zN ?_)
  have hne : ¬ checkState p s = 0 := by simpa using h
  have h1 : resE p s = checkState p s := by unfold resE;rw [if_neg hne]
  have h2 : resR p s = [] := by unfold resR;rw [h1,if_neg hne]
  rw [h1,h2]
  exact zT Tryz.results71
 refine zS ?_
 have h0 : checkState p s = 0 := by simpa using h
 have v := ud.1 h0
 obtain ⟨hm,hm1,hm4,hn8,hall⟩ := oO v.plan
 have hnT : nT p = p.txns.length := rfl
 clear h
 (refine zR ?_;(iterate 2 refine sA ?_);refine ALK.n (o3 (vd p s v) (Evs.cons Ev.a (Evs.cons Ev.a Evs.nil))) rfl ?_;refine sA ?_;refine zN ?_)
 refine zC (fun h => ?_) (fun h => ?_)
 ·(refine zR ?_;(iterate 2 refine sA ?_);refine zN ?_)
  have ho : overB p s = false := by simpa using h
  have h1 : resE p s = 8 := by unfold resE;rw [if_pos h0,ho];rfl
  have h2 : resR p s = [] := by unfold resR;rw [h1];rfl
  rw [h1,h2]
  exact zT Tryz.results71
 refine zS ?_
 have ho : overB p s = true := by simpa using h
 have h1 : resE p s = 0 := by unfold resE;rw [if_pos h0,ho];rfl
 have h2 : resR p s = resTo p s (nT p) := by unfold resR;rw [if_pos h1]
 rw [h1,h2]
 clear h
 (refine zR ?_;refine sA ?_;refine zN ?_)
 refine WP.shift (Shift.row0 7 163 2 cR (fun _ => rfl) rfl) ?_
 (refine zR ?_;refine sA ?_;refine zN ?_)
 refine zB ?_
 refine WP.loop (fun n : Nat => ⟨[(8,.im (IV.int n)),(7,.row 0 n),(2,.im (IV.ptr (cP p))),(3,.im (IV.ptr (cSt s)))],[(0,.row 163 2 cR (resTo p s n))],1⟩) (fun n => n ≤ nT p) (fun n => nT p - n) 0 (Nat.zero_le _) (Shift.sub [(0,0)] rfl SubE.a SubH.a) ?_
 rintro n hn
 (refine zR ?_;refine sA ?_;refine fd 1 ?_;(iterate 3 refine sA ?_);refine zN ?_)
 refine zC (fun h => ?_) (fun h => ?_)
 ·refine zS ?_
  have hlt : n < nT p := by simp at h;omega
  obtain ⟨ht,hok⟩ := hall n hlt
  have hbt : TxnB (txN p n) := hB _ (List.mem_of_getElem? ht)
  have e3 := v.shp.vals hlt
  have hx := resTo_next p s n
  have hl := resTo_len p s n
  refine zB ?_
  (refine zW ?_;refine fd 1 ?_;(iterate 4 refine sA ?_);refine fd 3 ?_;(iterate 4 refine sA ?_);refine ALK.n (o3 (jo (txN p n) (s.vals.getD n []) hbt hok (v.valr n hlt)) (Evs.cons Ev.a (Evs.cons Ev.a Evs.nil))) rfl ?_;(iterate 6 refine sA ?_);refine zD ?_)
  refine WP.shift (Shift.frzBlk 9 rfl rfl rfl) ?_
  (refine zR ?_;(iterate 2 refine sA ?_);refine ALK.n (o6 rfl rfl rfl rfl rfl rfl (Pc rfl (eB rfl) Cs.a rfl rfl Parts.nil) rfl) rfl ?_;refine ALK.e (o8 (b := 32) [(⟨runDone (txN p n) (s.vals.getD n []),s.vals.getD n []⟩ : Res)] rfl rfl rfl rfl rfl (eB rfl) (eB rfl) rfl rfl (by rw [hl];simp;omega) rfl) rfl rfl ?_;refine sA ?_;refine zN ?_)
  (refine zR ?_;(iterate 3 refine sA ?_);refine zN ?_)
  show ∃ _,_ ∧ _ ∧ _
  exact ⟨n + 1,by omega,by omega,Shift.sub [(0,2)] rfl (SubE.cons rfl SLe.a (SubE.cons rfl (SLe.row rfl (by rw [hl];rfl)) SubE.a)) (SubH.cons rfl rfl (ObLe.row hx.symm) SubH.nil)⟩
 ·refine zE ?_
  have hn2 : n = nT p := by simp at h;omega
  subst hn2
  refine WP.shift (Shift.frzRow 7 rfl rfl) ?_
  (refine zR ?_;(iterate 3 refine sA ?_);refine zN ?_)
  exact zT Tryz.results71
theorem AuditOf_fn (s : List Int) (l : List Txn) (st : List Int) (rs : List Res) (hbt : TxsB l) : Fn CC 72 [intsV s,txsV l,intsV st,ressV rs] (IV.tup [IV.int (audN s l st rs),IV.int (audE s l st rs)]) := by
 refine Fn.of_wp _ Tryz.func72 rfl (by kernel_rfl) Tryz.ntmps72 rfl ?_
 intro F hD hG
 refine WP.len 1 rfl (fun hl1 => ?_)
 refine WP.len 3 rfl (fun hl3 => ?_)
 (refine zR ?_;(iterate 2 refine sA ?_);refine zN ?_)
 (refine zR ?_;(iterate 2 refine sA ?_);refine ALK.n (o3 (SerialOf_fn s l hbt) (Evs.cons Ev.a (Evs.cons Ev.a Evs.nil))) rfl ?_;(iterate 7 refine sA ?_);refine zN ?_)
 (refine zR ?_;(iterate 2 refine sA ?_);refine zN ?_)
 refine zC (fun h => ?_) (fun h => ?_)
 ·(refine zR ?_;(iterate 3 refine sA ?_);refine zN ?_)
  have hne : ¬ serE s l = 0 := by simpa using h
  have h1 : audE s l st rs = serE s l := by unfold audE;rw [if_neg hne]
  have h2 : audN s l st rs = 0 := by unfold audN;rw [h1,if_neg hne]
  rw [h1,h2]
  exact zT Tryz.results72
 refine zS ?_
 have h0 : serE s l = 0 := by simpa using h
 obtain ⟨hs8,hcl⟩ := serE_zero h0
 obtain ⟨hl8,_⟩ := y7 hcl
 rw [serL_of h0,serV_of h0]
 have hrl := qc s l
 (refine zR ?_;refine sA ?_;refine ALK.n (o3 (vq st) (Evs.cons Ev.a Evs.nil)) rfl ?_;(iterate 2 refine sA ?_);(iterate 5 refine gA ?_);refine sA ?_;refine zN ?_)
 refine zC (fun h => ?_) (fun h => ?_)
 ·(refine zR ?_;(iterate 2 refine sA ?_);refine zN ?_)
  have h1 : audE s l st rs = 1 := by
   unfold audE
   rw [if_pos h0,if_neg]
   rintro ⟨a,b⟩
   rw [b] at h
   simp [a] at h
  have h2 : audN s l st rs = 0 := by unfold audN;rw [h1];rfl
  rw [h1,h2]
  exact zT Tryz.results72
 refine zS ?_
 have hc : st.length = 8 ∧ rs.length = l.length := by
  simp only [Bool.or_eq_false_iff,Bool.not_eq_false',decide_eq_true_eq,bne_eq_false_iff_eq] at h
  exact ⟨h.1,by omega⟩
 have hE : audE s l st rs = 0 := by unfold audE;rw [if_pos h0,if_pos hc]
 have hN : audN s l st rs = match diffAt (serR s l) rs with
  | some k => (k : Int)
  | none => if serS s l = st then -1 else l.length := by unfold audN;rw [if_pos hE];rfl
 rw [hE]
 (refine zR ?_;refine sA ?_;refine zN ?_)
 refine zB ?_
 refine WP.loop (fun k : Nat => ⟨[(13,.im (IV.int k)),(11,.im (ressV (serR s l))),(1,.im (txsV l)),(2,.im (intsV st)),(3,.im (ressV rs)),(10,.im (intsV (serS s l)))],[],0⟩) (fun k => k ≤ l.length ∧ (serR s l).take k = rs.take k) (fun k => l.length - k) 0 ⟨Nat.zero_le _,rfl⟩ (Shift.sub [] rfl SubE.a SubH.nil) ?_
 rintro k ⟨hk,he⟩
 (refine zR ?_;(iterate 4 refine sA ?_);refine zN ?_)
 refine zC (fun h => ?_) (fun h => ?_)
 ·refine zS ?_
  have hlt : k < l.length := by simp at h;omega
  obtain ⟨x,hx⟩ := oc (xs := serR s l) (k := k) (by omega)
  obtain ⟨y,hy⟩ := oc (xs := rs) (k := k) (by omega)
  have one : ∀ {a : List Res} {z : Res},a[k]? = some z → (a.take (k + 1)).drop k = [z] := fun {a z} h => by
   obtain ⟨h1,h2⟩ := List.getElem?_eq_some_iff.1 h
   rw [List.drop_take,Nat.add_sub_cancel_left,List.drop_eq_getElem_cons h1,h2]
   rfl
  refine zB ?_
  (refine zW ?_;(iterate 4 refine sA ?_);refine ALK.n (opn_slice (l := k) (h := k + 1) rfl (eB rfl) (Bd.some (eB rfl)) (Bd.some (Ev.of (eB rfl) (ImOf.im (ILe.int (by omega))))) (by omega) (by omega)) rfl ?_;(iterate 4 refine sA ?_);refine ALK.n (opn_slice (l := k) (h := k + 1) rfl (eB rfl) (Bd.some (eB rfl)) (Bd.some (Ev.of (eB rfl) (ImOf.im (ILe.int (by omega))))) (by omega) (by omega)) rfl ?_;refine ALK.n (o3 (SameResults_fn _ _) (Evs.cons Ev.a (Evs.cons Ev.a Evs.nil))) rfl ?_;refine sA ?_;refine zD ?_)
  rw [one hx,one hy]
  refine zC (fun h => ?_) (fun h => ?_)
  ·(refine zR ?_;(iterate 3 refine sA ?_);refine zN ?_)
   have hd : diffAt (serR s l) rs = some k := diffAt_at he hx hy fun e => by subst e;simp at h
   have hr : audN s l st rs = (k : Int) := by rw [hN,hd]
   rw [hr]
   exact zT Tryz.results72
  refine zS ?_
  have hxy : x = y := by simpa using h
  (refine zR ?_;(iterate 3 refine sA ?_);refine zN ?_)
  show ∃ _,_ ∧ _ ∧ _
  exact ⟨k + 1,⟨by omega,uR he hx hy hxy⟩,by omega,(Shift.sub [] rfl SubE.a SubH.nil)⟩
 ·refine zE ?_
  have hall : serR s l = rs := qu he (by simp at h;omega) (by omega)
  have hd : diffAt (serR s l) rs = none := by rw [hall];exact jz _
  (refine zR ?_;(iterate 2 refine sA ?_);refine ALK.n (o3 (SameInts_fn _ _) (Evs.cons Ev.a (Evs.cons Ev.a Evs.nil))) rfl ?_;refine sA ?_;refine zN ?_)
  refine zC (fun h => ?_) (fun h => ?_)
  ·(refine zR ?_;(iterate 4 refine sA ?_);refine zN ?_)
   have hn : ¬ serS s l = st := by simpa using h
   have hr : audN s l st rs = (l.length : Int) := by rw [hN,hd];exact if_neg hn
   rw [hr]
   exact zT Tryz.results72
  refine zS ?_
  have hn : serS s l = st := by simpa using h
  have hr : audN s l st rs = -1 := by rw [hN,hd];exact if_pos hn
  (refine zR ?_;(iterate 2 refine sA ?_);refine zN ?_)
  rw [hr]
  exact zT Tryz.results72
theorem I64.small {n : Int} (h0 : -1000000 ≤ n) (h1 : n ≤ 1000000) : I64 n := by unfold I64;omega
theorem oT (e : Int) (h : I64 e) : Fn CC 61 [IV.int e] (IV.str (errT e)) := by
 have hl := ua h
 refine Fn.of_wp _ Tryz.func61 rfl (by kernel_rfl) Tryz.ntmps61 rfl ?_
 intro F hD hG
 (refine zR ?_;refine sA ?_;refine zN ?_)
 (refine zR ?_;refine sA ?_;refine ALK.n (o3 (oL _ h) (Evs.cons Ev.a Evs.nil)) rfl ?_;refine ALK.n (ol (a := sError) (eB rfl) (eB rfl) (by show 6 + _ ≤ _;omega)) rfl ?_;refine sA ?_;refine zN ?_)
 exact zT Tryz.results61
def canTo' (l : List StepT) (k : Nat) : List UInt8 := canT (l.take k)
def canMid (l : List StepT) (k : Nat) : List UInt8 := if 0 < k ∧ k < l.length then canTo' l k ++ [59] else canTo' l k
def canPre (l : List StepT) (k : Nat) : List UInt8 := if 0 < k then canTo' l k ++ [59] ++ [32] else []
theorem canTo_step {l : List StepT} {k : Nat} {x : StepT} (h : l[k]? = some x) : canTo' l (k + 1) = canPre l k ++ stepT x := by
 unfold canTo' canT canPre
 rw [oM h,List.map_append]
 show joinS _ (_ ++ [stepT x]) = _
 rw [joinS_snoc]
 have hlt := (List.getElem?_eq_some_iff.1 h).1
 by_cases h0 : 0 < k
 ·rw [if_neg,if_pos h0]
  ·unfold canTo' canT;simp
  ·intro e
   have := congrArg List.length e
   rw [List.length_map,List.length_take,List.length_nil] at this
   omega
 ·obtain rfl : k = 0 := by omega
  rfl
theorem canMid_len {l : List StepT} (hl : l.length ≤ 64) (hr : ∀ x ∈ l,(stepT x).length ≤ 12) (k : Nat) : (canTo' l k).length ≤ 896 := by
 have h1 := vf [59,32] 12 ((l.take k).map stepT) fun x hx => by
  obtain ⟨y,hy,rfl⟩ := List.mem_map.1 hx
  exact hr y (List.mem_of_mem_take hy)
 rw [List.length_map] at h1
 have h2 : (l.take k).length ≤ 64 := by rw [List.length_take];omega
 have h3 : (l.take k).length * (12 + [59,32].length) ≤ 64 * 14 := Nat.mul_le_mul_right _ h2
 unfold canTo' canT;omega
def opT (x : StepT) : List UInt8 := if x.kind = 2 then [119,114,105,116,101] else [114,101,97,100]
theorem stepT_eq (x : StepT) : stepT x = opT x ++ [32] ++ digs x.txn ++ [32] ++ digs x.shard := by
 unfold stepT opT
 split <;> simp
theorem ref_steps_fn (l : List StepT) (hl : l.length ≤ 64) (hr : ∀ x ∈ l,(stepT x).length ≤ 12) (hi : ∀ x ∈ l,I64 x.txn ∧ I64 x.shard) : Fn CC 68 [stpsV l] (IV.str (canT l)) := by
 refine Fn.of_wp _ Tryz.func68 rfl (by kernel_rfl) Tryz.ntmps68 rfl ?_
 intro F hD hG
 (refine zR ?_;refine sA ?_;refine zN ?_)
 (refine zR ?_;refine sA ?_;refine zN ?_)
 (refine zR ?_;refine sA ?_;refine zN ?_)
 refine zB ?_
 refine WP.loop (fun k : Nat => ⟨[(4,.im (IV.int k)),(3,.im (IV.str (canMid l k))),(0,.im (stpsV l))],[],0⟩) (fun k => k ≤ l.length) (fun k => l.length - k) 0 (Nat.zero_le _) (Shift.sub [] rfl (SubE.cons rfl SLe.a (SubE.cons rfl (SLe.im (ILe.eq (by unfold canMid;rw [if_neg (by omega)];rfl))) SubE.a)) SubH.nil) ?_
 rintro k hk
 (refine zR ?_;(iterate 4 refine sA ?_);refine zN ?_)
 refine zC (fun h => ?_) (fun h => ?_)
 ·refine zS ?_
  have hlt : k < l.length := by simpa using h
  obtain ⟨x,hx⟩ := oc hlt
  have hmem := List.mem_of_getElem? hx
  have hs := hr x hmem
  obtain ⟨i1,i2⟩ := hi x hmem
  have hA := canMid_len hl hr k
  have hnext := canTo_step hx
  rw [stepT_eq] at hs hnext
  simp only [List.length_append] at hs
  clear h
  refine zB ?_
  (refine zR ?_;(iterate 2 refine sA ?_);refine zN ?_)
  ((repeat apply WP.seq);refine WP.qshift (⟨[(3,.im (IV.str (canPre l k))),(4,.im (IV.int k)),(0,.im (stpsV l))],[],0⟩) (WP.cond rfl (fun h => ?_) (fun h => ?_)) ?_)
  ·have h0 : 0 < k := by simpa using h
   have e1 : canMid l k = canTo' l k ++ [59] := by unfold canMid;rw [if_pos ⟨h0,hlt⟩]
   have e2 : canPre l k = canTo' l k ++ [59] ++ [32] := by unfold canPre;rw [if_pos h0]
   rw [e1,e2]
   (refine zR ?_;refine sA ?_;refine ALK.n (ol (b := [32]) (eB rfl) (eB rfl) (by simp;omega)) rfl ?_;refine sA ?_;refine zN ?_)
   show Shift _ _ _ _
   exact (Shift.sub [] rfl SubE.a SubH.nil)
  ·have h0 : ¬ 0 < k := by simpa using h
   have e1 : canMid l k = canTo' l k := by unfold canMid;rw [if_neg (by omega)]
   have e2 : canPre l k = [] := by unfold canPre;rw [if_neg h0]
   obtain rfl : k = 0 := by omega
   refine WP.skip ?_;show Shift _ _ _ _
   exact Shift.sub [] rfl (SubE.cons rfl (SLe.im (ILe.eq (by rw [e1,e2];rfl))) SubE.a) SubH.nil
  have hP : (canPre l k).length ≤ 898 := by
   unfold canPre
   split
   ·simp;omega
   ·simp
  (refine zR ?_;refine sA ?_;refine zN ?_)
  (refine zR ?_;(iterate 3 refine sA ?_);refine fd 0 ?_;(iterate 2 refine sA ?_);refine zN ?_)
  ((repeat apply WP.seq);refine WP.qshift (⟨[(5,.im (IV.str (opT x))),(3,.im (IV.str (canPre l k))),(4,.im (IV.int k)),(0,.im (stpsV l))],[],0⟩) (WP.cond rfl (fun h => ?_) (fun h => ?_)) ?_)
  ·have h0 : x.kind = 2 := by simpa using h
   (refine zR ?_;refine sA ?_;refine zN ?_)
   show Shift _ _ _ _
   exact Shift.sub [] rfl (SubE.cons rfl (SLe.im (ILe.eq (by unfold opT;rw [if_pos h0];rfl))) SubE.a) SubH.nil
  ·have h0 : ¬ x.kind = 2 := by simpa using h
   refine WP.skip ?_;show Shift _ _ _ _
   exact Shift.sub [] rfl (SubE.cons rfl (SLe.im (ILe.eq (by unfold opT;rw [if_neg h0];rfl))) SubE.a) SubH.nil
  (refine zW ?_;(iterate 2 refine sA ?_);refine ALK.n (ol (eB rfl) (eB rfl) (by omega)) rfl ?_;refine ALK.n (ol (b := [32]) (eB rfl) (eB rfl) (by simp;omega)) rfl ?_;(iterate 3 refine sA ?_);refine fd 1 ?_;refine sA ?_;refine ALK.n (o3 (oL _ i1) (Evs.cons Ev.a Evs.nil)) rfl ?_;refine ALK.n (ol (eB rfl) (eB rfl) (by simp;omega)) rfl ?_;refine ALK.n (ol (b := [32]) (eB rfl) (eB rfl) (by simp;omega)) rfl ?_;(iterate 3 refine sA ?_);refine fd 2 ?_;refine sA ?_;refine ALK.n (o3 (oL _ i2) (Evs.cons Ev.a Evs.nil)) rfl ?_;refine ALK.n (ol (eB rfl) (eB rfl) (by simp;omega)) rfl ?_;refine sA ?_;refine zD ?_)
  have hB := canMid_len hl hr (k + 1)
  have e3 : canPre l k ++ opT x ++ [32] ++ digs x.txn ++ [32] ++ digs x.shard = canTo' l (k + 1) := by rw [hnext];simp
  rw [e3]
  (refine zR ?_;(iterate 5 refine sA ?_);refine zN ?_)
  refine zC (fun h => ?_) (fun h => ?_)
  ·have h0 : k + 1 < l.length := by simp at h;omega
   have e4 : canMid l (k + 1) = canTo' l (k + 1) ++ [59] := by unfold canMid;rw [if_pos ⟨by omega,h0⟩]
   (refine zR ?_;refine sA ?_;refine ALK.n (ol (b := [59]) (eB rfl) (eB rfl) (by simp;omega)) rfl ?_;refine sA ?_;refine zN ?_)
   (refine zR ?_;(iterate 3 refine sA ?_);refine zN ?_)
   show ∃ _,_ ∧ _ ∧ _
   exact ⟨k + 1,by omega,by omega,Shift.sub [] rfl (SubE.cons rfl SLe.a (SubE.cons rfl (SLe.im (ILe.eq (by rw [e4]))) SubE.a)) SubH.nil⟩
  ·have h0 : ¬ k + 1 < l.length := by simp at h;omega
   have e4 : canMid l (k + 1) = canTo' l (k + 1) := by unfold canMid;rw [if_neg (by omega)]
   refine zS ?_
   (refine zR ?_;(iterate 3 refine sA ?_);refine zN ?_)
   show ∃ _,_ ∧ _ ∧ _
   exact ⟨k + 1,by omega,by omega,Shift.sub [] rfl (SubE.cons rfl SLe.a (SubE.cons rfl (SLe.im (ILe.eq (by rw [e4]))) SubE.a)) SubH.nil⟩
 ·refine zE ?_
  obtain rfl : k = l.length := by simp at h;omega
  have e1 : canMid l l.length = canT l := by unfold canMid canTo';rw [if_neg (by omega),List.take_length]
  rw [e1]
  (refine zR ?_;(iterate 2 refine sA ?_);refine zN ?_)
  exact zT Tryz.results68
end Go.Proofs.YtjgmbgfcffnanaaGreatDoor
