/- Package steps: Begin and Do. Package steps: Do. -/
import Derived.Test.YtjgmbgfcffnanaaGreatDoorZ23
set_option maxRecDepth 100000
set_option maxHeartbeats 4000000
namespace Go.Proofs.YtjgmbgfcffnanaaGreatDoor
open Go.RowKit
theorem begin_vals {p : Plan} {n : Nat} (h : n < nT p) : (p.txns.take (n + 1)).map (fun t => List.replicate t.reads.length (0 : Int)) = (p.txns.take n).map (fun t => List.replicate t.reads.length (0 : Int)) ++ [List.replicate (txN p n).reads.length 0] := by
 have : p.txns[n]? = some (txN p n) := o9 _ h
 rw [yg this,List.map_append];rfl
theorem Begin_new (p : Plan) (st : List Int) (hB : TxsB p.txns) (h0 : beginE p st = 0) :
 FnE CC 10 0 [.im (planV p),.im (intsV st)] [] (.tup [ownSV (beginS p st) 0 1 17 33,.im (IV.int 0)]) (ownH (beginS p st) 0 1 17 33) 49 [] := by
 have v := Valid.begin h0
 have hst : st.length = 8 := v.store
 have hp := v.plan
 obtain ⟨hm,hm1,hm4,hn8,hall⟩ := oO hp
 have hnT : nT p = p.txns.length := rfl
 refine FnE.of_wp _ [] Tryz.func10 rfl (by kernel_rfl) Tryz.ntmps10 rfl rfl rfl rfl rfl rfl rfl rfl rfl ?_
 intro F vs hD hvs
 obtain ⟨v0,v1,rfl⟩ := len2 hvs
 show WP _ _ _ _ _ ⟨[(0,.im (planV p)),(1,.im (intsV st))],[],0⟩
 (refine zR ?_;(iterate 3 refine sA ?_);refine zN ?_)
 (refine zR ?_;refine sA ?_;refine ALK.n (o3 (yA _ (by assumption)) (Evs.cons Ev.a Evs.nil)) rfl ?_;refine sA ?_;refine zN ?_)
 (refine zR ?_;(iterate 2 refine sA ?_);refine zN ?_)
 refine zC (fun h => ?_) (fun h => ?_)
 ·simp [hp] at h
 refine zS ?_
 (refine zR ?_;refine sA ?_;refine ALK.n (o3 (yP st) (Evs.cons Ev.a Evs.nil)) rfl ?_;refine sA ?_;refine zN ?_)
 rw [if_pos hst]
 (refine zR ?_;(iterate 2 refine sA ?_);refine zN ?_)
 refine zC (fun h => ?_) (fun h => ?_)
 ·simp at h
 refine zS ?_
 (refine zR ?_;refine sA ?_;refine ALK.a (yp (qF st (by omega)) (Evs.cons Ev.a Evs.nil)) rfl ?_;(iterate 3 refine sA ?_);refine zN ?_)
 refine WP.shift (Shift.nest0In 2 1 101 4 1 cB (fun _ => rfl) rfl rfl rfl) ?_
 refine WP.shift (Shift.nest0In 2 2 101 4 1 cB (fun _ => rfl) rfl rfl rfl) ?_
 refine WP.shift (Shift.nest0In 2 3 34 3 1 cI (fun _ => rfl) rfl rfl rfl) ?_
 (refine zR ?_;refine fd 1 ?_;(iterate 3 refine sA ?_);refine zN ?_)
 refine zB ?_
 refine WP.loop (fun n : Nat => ⟨[(29,.im (IV.int n)),(27,.im (txsV p.txns)),(28,.im (IV.int p.txns.length)),(2,.im (IV.ptr (cP p))),(4,.off 0 0),(8,.off 2 0)],[(0,.blk 38 [.im (IV.val (.slice none 0 0)),.im (IV.val (.slice none 0 0)),.im (IV.val (.slice none 0 0)),.im (IV.val (.slice none 0 0))]),(1,rowI st),(2,.blk 38 [.row 1 st.length,.row 3 n,.row 19 n,.row 35 n]),(3,nestB (List.replicate n (List.replicate (mS p) false))),(19,nestB (List.replicate n (List.replicate (mS p) false))),(35,nestI ((p.txns.take n).map fun t => List.replicate t.reads.length 0))],51⟩) (fun n => n ≤ nT p) (fun n => nT p - n) 0 (Nat.zero_le _)
  (Shift.sub ([(0,0),(1,1),(2,2)] ++ rnN 3 3 ++ rnN 19 19 ++ rnN 35 35) rfl SubE.a (SubH.cons rfl rfl (ObLe.blk SLes.a) (SubH.cons rfl rfl (ObLe.row rfl) (SubH.cons rfl rfl (ObLe.blk SLes.a) (SubH.cons rfl rfl (ObLe.nest rfl) (SubH.cons rfl rfl (ObLe.nest rfl) (SubH.cons rfl rfl (ObLe.nest rfl) SubH.nil))))))) ?_
 rintro n hn
 (refine zR ?_;refine sA ?_;refine zN ?_)
 refine zC (fun h => ?_) (fun h => ?_)
 ·refine zS ?_
  have hlt : n < nT p := by simp at h;omega
  obtain ⟨ht,hok⟩ := hall n hlt
  obtain ⟨hz1,hz2,hz3,hz4⟩ := (y6 hok).1
  have hvl : ((p.txns.take n).map fun t => List.replicate t.reads.length (0 : Int)).length = n := by rw [List.length_map,List.length_take];omega
  refine zB ?_
  (refine zR ?_;(iterate 4 refine sA ?_);refine zN ?_)
  refine WP.shift (Shift.frzBlk 10 rfl rfl rfl) ?_
  (refine zW ?_;refine fd 1 ?_;refine sA ?_;refine fd 0 ?_;refine sA ?_;refine ALK.a (yS (n := mS p) (b := 1) (enc := cB) false rfl rfl (fun _ => rfl) rfl rfl rfl (Ev.of (eB rfl) (ImOf.im (ILe.int hm))) (Ev.of (eB rfl) (ImOf.im (ILe.int hm))) rfl (by omega) (by omega)) rfl ?_;refine ALK.n (od rfl rfl rfl rfl rfl rfl (Pc rfl (eB rfl) Cs.a rfl rfl Parts.nil)) rfl ?_;refine ALK.e (oq rfl rfl rfl rfl (eB rfl) (eB rfl) rfl rfl rfl (by rw [List.length_replicate];omega)) rfl rfl ?_;refine fd 1 ?_;refine sA ?_;refine zD ?_)
  (refine zW ?_;refine fd 2 ?_;refine sA ?_;refine fd 0 ?_;refine sA ?_;refine ALK.a (yS (n := mS p) (b := 1) (enc := cB) false rfl rfl (fun _ => rfl) rfl rfl rfl (Ev.of (eB rfl) (ImOf.im (ILe.int hm))) (Ev.of (eB rfl) (ImOf.im (ILe.int hm))) rfl (by omega) (by omega)) rfl ?_;refine ALK.n (od rfl rfl rfl rfl rfl rfl (Pc rfl (eB rfl) Cs.a rfl rfl Parts.nil)) rfl ?_;refine ALK.e (oq rfl rfl rfl rfl (eB rfl) (eB rfl) rfl rfl rfl (by rw [List.length_replicate];omega)) rfl rfl ?_;refine fd 2 ?_;refine sA ?_;refine zD ?_)
  (refine zW ?_;refine fd 3 ?_;refine sA ?_;refine fd 0 ?_;(iterate 2 refine sA ?_);refine ALK.a (yS (n := (txN p n).reads.length) (b := 8) (enc := cI) 0 rfl rfl (fun _ => rfl) rfl rfl rfl (eB rfl) (eB rfl) rfl (by omega) (by omega)) rfl ?_;refine ALK.n (od rfl rfl rfl rfl rfl rfl (Pc rfl (eB rfl) Cs.a rfl rfl Parts.nil)) rfl ?_;refine ALK.e (oq rfl rfl rfl rfl (eB rfl) (eB rfl) rfl rfl rfl (by rw [hvl];omega)) rfl rfl ?_;refine fd 3 ?_;refine sA ?_;refine zD ?_)
  (refine zR ?_;(iterate 2 refine sA ?_);refine zN ?_)
  show ∃ _,_ ∧ _ ∧ _
  exact ⟨n + 1,by omega,by omega,Shift.sub ([(0,0),(1,1),(2,2)] ++ rnN 3 53 ++ rnN 19 70 ++ rnN 35 87) rfl SubE.a (SubH.cons rfl rfl (ObLe.blk SLes.a) (SubH.cons rfl rfl (ObLe.row rfl) (SubH.cons rfl rfl (ObLe.blk (SLes.cons SLe.a (SLes.cons (SLe.row rfl (by rw [List.length_replicate])) (SLes.cons (SLe.row rfl (by rw [List.length_replicate])) (SLes.cons (SLe.row rfl (by rw [hvl])) SLes.nil))))) (SubH.cons rfl rfl (ObLe.nest (List.replicate_succ' ..).symm) (SubH.cons rfl rfl (ObLe.nest (List.replicate_succ' ..).symm) (SubH.cons rfl rfl (ObLe.nest (begin_vals hlt).symm) SubH.nil))))))⟩
 ·refine zE ?_
  have hn2 : n = nT p := by simp at h;omega
  subst hn2
  (refine zR ?_;(iterate 3 refine sA ?_);refine zN ?_)
  refine WP.shift (Shift.sub (σ' := [(4,.off 49 0),(5,.im (IV.int 0))]) (H' := (49,.blk 38 [.row 0 (beginS p st).store.length,.row 1 (beginS p st).rd.length,.row 17 (beginS p st).wr.length,.row 33 (beginS p st).vals.length]) :: ownH (beginS p st) 0 1 17 33) (fr' := 50) ([(0,1),(49,0)] ++ rnN 1 3 ++ rnN 17 19 ++ rnN 33 35) rfl SubE.a (SubH.cons rfl rfl (ObLe.blk (SLes.cons SLe.a (SLes.cons (SLe.row rfl v.rdl.symm) (SLes.cons (SLe.row rfl v.wrl.symm) (SLes.cons (SLe.row rfl v.vall.symm) SLes.nil))))) (SubH.cons rfl rfl (ObLe.row rfl) (SubH.cons rfl rfl (ObLe.nest rfl) (SubH.cons rfl rfl (ObLe.nest rfl) (SubH.cons rfl rfl (ObLe.nest (by rw [hnT,List.take_length];rfl)) SubH.nil)))))) ?_
  refine WP.ret ?_
  exact RetOkE.svs Tryz.results10 rfl (.cons (ResSv.cell rfl rfl rfl rfl) (.cons (ResSv.tmp rfl) .nil)) HSb.a Kept.a
theorem Begin_err (p : Plan) (st : List Int) (hB : TxsB p.txns) (h0 : ¬ beginE p st = 0) : Fn CC 10 [planV p,intsV st] (IV.tup [stV st0,IV.int (beginE p st)]) := by
 refine Fn.of_wp _ Tryz.func10 rfl (by kernel_rfl) Tryz.ntmps10 rfl ?_
 intro F hD hG
 (refine zR ?_;(iterate 3 refine sA ?_);refine zN ?_)
 (refine zR ?_;refine sA ?_;refine ALK.n (o3 (yA _ (by assumption)) (Evs.cons Ev.a Evs.nil)) rfl ?_;refine sA ?_;refine zN ?_)
 (refine zR ?_;(iterate 2 refine sA ?_);refine zN ?_)
 refine zC (fun h => ?_) (fun h => ?_)
 ·have hr : beginE p st = checkPlan p := by unfold beginE;rw [if_neg (by simpa using h)]
  rw [hr]
  (refine zR ?_;(iterate 4 refine sA ?_);refine zN ?_)
  exact zT Tryz.results10
 refine zS ?_
 have hp : checkPlan p = 0 := by simpa using h
 have hr : beginE p st = if st.length = 8 then 0 else 1 := by unfold beginE;rw [if_pos hp]
 (refine zR ?_;refine sA ?_;refine ALK.n (o3 (yP st) (Evs.cons Ev.a Evs.nil)) rfl ?_;refine sA ?_;refine zN ?_)
 (refine zR ?_;(iterate 2 refine sA ?_);refine zN ?_)
 rw [← hr]
 refine zC (fun h => ?_) (fun h => ?_)
 ·(refine zR ?_;(iterate 4 refine sA ?_);refine zN ?_)
  exact zT Tryz.results10
 ·exact absurd (by simpa using h) h0
theorem lnd_st {s : StT} {a b c d : Nat} {H : List Ent} (h1 : hget H a = some (rowI s.store)) (h2 : hget H b = some (nestB s.rd)) (h3 : hget H c = some (nestB s.wr)) (h4 : hget H d = some (nestI s.vals)) : Lnd H (ownSV s a b c d) (stV s) := .agg (.cons (.row h1) (.cons (.nest h2) (.cons (.nest h3) (.cons (.nest h4) .nil))))
theorem Begin_fn (p : Plan) (st : List Int) (hB : TxsB p.txns) : Fn CC 10 [planV p,intsV st] (IV.tup [stV (begS p st),IV.int (beginE p st)]) := by
 by_cases h : beginE p st = 0
 ·have hr : begS p st = beginS p st := by unfold begS;rw [if_pos h]
  rw [h,hr]
  exact Fn.of_new (args := [planV p,intsV st]) (Begin_new p st hB h) (.tup (.cons (lnd_st rfl rfl rfl rfl) (.cons .im .nil)))
 ·have hr : begS p st = st0 := by unfold begS;rw [if_neg h]
  rw [hr]
  exact Begin_err p st hB h
theorem Valid.shp {p : Plan} {s : StT} (v : Valid p s) : Shp p s := ⟨v.plan,y9.2 ⟨v.store,v.rdl,v.wrl,v.vall,fun n hn => ⟨v.rdr n hn,v.wrr n hn,v.valr n hn⟩⟩⟩
theorem len_le {l : List (List Int)} {N : Nat} (h : ∀ n,n < l.length → (l.getD n []).length ≤ N) : ∀ x ∈ l,x.length ≤ N := fun x hx => by
 obtain ⟨n,hn⟩ := List.mem_iff_getElem?.1 hx
 have := h n (List.getElem?_eq_some_iff.1 hn).1
 rwa [uB hn] at this
theorem jZ {l : List (List Bool)} {N : Nat} (h : ∀ n,n < l.length → (l.getD n []).length ≤ N) : ∀ x ∈ l,x.length ≤ N := fun x hx => by
 obtain ⟨n,hn⟩ := List.mem_iff_getElem?.1 hx
 have := h n (List.getElem?_eq_some_iff.1 hn).1
 rwa [uB hn] at this
theorem Valid.reads4 {p : Plan} (hp : checkPlan p = 0) {n : Nat} (hn : n < nT p) : (txN p n).reads.length ≤ 4 := ((y6 ((oO hp).2.2.2.2 n hn).2).1).1
theorem Do_fn (p : Plan) (s : StT) (x : StepT) (hB : TxsB p.txns) : Fn CC 95 [planV p,stV s,stpV x] (IV.tup [stV (doS p s x),IV.int (doE p s x)]) := by
 obtain ⟨kind,tn,sh⟩ := x
 have hx0 : ∀ e,¬ e = 0 → doE p s ⟨kind,tn,sh⟩ = e → doS p s ⟨kind,tn,sh⟩ = st0 := fun e h1 h2 => by unfold doS;rw [h2,if_neg h1]
 refine Fn.of_wp _ Tryz.func95 rfl (by kernel_rfl) Tryz.ntmps95 rfl ?_
 intro F hD hG
 show WP _ _ _ _ _ ⟨[(0,.im (planV p)),(1,.im (stV s)),(2,.im (IV.agg [IV.int kind,IV.int tn,IV.int sh]))],[],0⟩
 (refine zR ?_;(iterate 5 refine sA ?_);refine zN ?_)
 (refine zR ?_;(iterate 2 refine sA ?_);refine ALK.n (o3 (jy p s hB) (Evs.cons Ev.a (Evs.cons Ev.a Evs.nil))) rfl ?_;refine sA ?_;refine zN ?_)
 (refine zR ?_;(iterate 2 refine sA ?_);refine zN ?_)
 refine zC (fun h => ?_) (fun h => ?_)
 ·have hne : ¬ checkState p s = 0 := by simpa using h
  have hr : doE p s ⟨kind,tn,sh⟩ = checkState p s := by unfold doE;rw [if_neg hne]
  rw [hx0 _ hne hr,hr]
  (refine zR ?_;(iterate 4 refine sA ?_);refine zN ?_)
  exact zT Tryz.results95
 refine zS ?_
 have h0 : checkState p s = 0 := by simpa using h
 have v := ud.1 h0
 obtain ⟨hm,hm1,hm4,hn8,hall⟩ := oO v.plan
 have hnT : nT p = p.txns.length := rfl
 have hd : doE p s ⟨kind,tn,sh⟩ = if kind = 1 ∨ kind = 2 then
  if tn < 0 ∨ (nT p : Int) ≤ tn ∨ sh < 0 ∨ (mS p : Int) ≤ sh then 5
  else if hasX p ⟨kind,tn,sh⟩ = false then 5 else if didX s ⟨kind,tn,sh⟩ = true then 7 else if mayB p s kind tn.toNat sh.toNat = false then 6 else 0
  else 4 := by unfold doE;rw [if_pos h0]
 clear h
 (refine zR ?_;refine fd 0 ?_;(iterate 3 refine sA ?_);refine gF 0 ?_;(iterate 2 refine gA ?_);refine sA ?_;refine zN ?_)
 refine zC (fun h => ?_) (fun h => ?_)
 ·have hr : doE p s ⟨kind,tn,sh⟩ = 4 := by
   rw [hd,if_neg]
   simp at h;omega
  rw [hx0 _ (by omega) hr,hr]
  (refine zR ?_;(iterate 3 refine sA ?_);refine zN ?_)
  exact zT Tryz.results95
 refine zS ?_
 have hkd : kind = 1 ∨ kind = 2 := by simp at h;omega
 rw [if_pos hkd] at hd
 clear h
 (refine zR ?_;refine fd 1 ?_;(iterate 3 refine sA ?_);refine gF 1 ?_;refine gA ?_;refine gF 1 ?_;(iterate 3 refine gA ?_);(iterate 2 refine sA ?_);refine gF 2 ?_;(iterate 2 refine gA ?_);(iterate 2 refine sA ?_);refine gF 2 ?_;refine gA ?_;refine gF 0 ?_;(iterate 2 refine gA ?_);refine sA ?_;refine zN ?_)
 refine zC (fun h => ?_) (fun h => ?_)
 ·have hr : doE p s ⟨kind,tn,sh⟩ = 5 := by
   rw [hd,if_pos]
   simp at h;omega
  rw [hx0 _ (by omega) hr,hr]
  (refine zR ?_;(iterate 3 refine sA ?_);refine zN ?_)
  exact zT Tryz.results95
 refine zS ?_
 have hrange : ¬ (tn < 0 ∨ (nT p : Int) ≤ tn ∨ sh < 0 ∨ (mS p : Int) ≤ sh) := by simp at h;omega
 rw [if_neg hrange] at hd
 clear h
 obtain ⟨n,rfl⟩ : ∃ n : Nat,tn = n := ⟨tn.toNat,by omega⟩
 obtain ⟨k,rfl⟩ : ∃ k : Nat,sh = k := ⟨sh.toNat,by omega⟩
 have hn : n < nT p := by omega
 have hk : k < mS p := by omega
 have hsx := q7 (p := p) (s := s) hn
 have hsy := jm (p := p) (s := s) (n := n) hk
 (refine zR ?_;refine sA ?_;refine ALK.n (o3 (of_fn p s v.shp hB) (Evs.cons Ev.a (Evs.cons Ev.a Evs.nil))) rfl ?_;refine sA ?_;refine zN ?_)
 (refine zW ?_;(iterate 2 refine sA ?_);refine fd 5 ?_;refine sA ?_;refine fd 1 ?_;(iterate 3 refine sA ?_);refine fd 2 ?_;(iterate 2 refine sA ?_);refine fd 0 ?_;(iterate 3 refine sA ?_);refine fd 5 ?_;refine sA ?_;refine fd 1 ?_;(iterate 3 refine sA ?_);refine fd 2 ?_;(iterate 2 refine sA ?_);refine fd 2 ?_;(iterate 3 refine sA ?_);refine zD ?_)
 (refine zR ?_;refine fd 0 ?_;(iterate 2 refine sA ?_);refine zN ?_)
 ((repeat apply WP.seq);refine WP.qshift (⟨[(10,.im (IV.bool (hasX p ⟨kind,n,k⟩))),(11,.im (IV.bool (didX s ⟨kind,n,k⟩))),(9,.im (hallV p s)),(3,.im (IV.ptr (cP p))),(4,.im (IV.ptr (cSt s))),(5,.im (IV.ptr [IV.int kind,IV.int (n : Int),IV.int (k : Int)])),(6,.off 0 0)],[(0,.blk 38 [.im (IV.val (.slice none 0 0)),.im (IV.val (.slice none 0 0)),.im (IV.val (.slice none 0 0)),.im (IV.val (.slice none 0 0))])],1⟩) (WP.cond rfl (fun h => ?_) (fun h => ?_)) ?_)
 ·have hk2 : kind = 2 := by simpa using h
  have a1 : hasX p ⟨kind,n,k⟩ = act p n k := by unfold hasX;rw [if_pos hk2];rfl
  have a2 : didX s ⟨kind,n,k⟩ = bAt s.wr n k := by unfold didX;rw [if_pos hk2];rfl
  (refine zW ?_;(iterate 2 refine sA ?_);refine fd 5 ?_;refine sA ?_;refine fd 1 ?_;(iterate 3 refine sA ?_);refine fd 2 ?_;(iterate 2 refine sA ?_);refine fd 1 ?_;(iterate 3 refine sA ?_);refine fd 5 ?_;refine sA ?_;refine fd 1 ?_;(iterate 3 refine sA ?_);refine fd 2 ?_;(iterate 2 refine sA ?_);refine fd 3 ?_;(iterate 3 refine sA ?_);refine zD ?_)
  show Shift _ _ _ _
  exact Shift.sub [(0,0)] rfl (SubE.cons rfl (SLe.im (ILe.bool a1.symm)) (SubE.cons rfl (SLe.im (ILe.bool a2.symm)) SubE.a)) SubH.a
 ·have hk2 : ¬ kind = 2 := by simpa using h
  have a1 : hasX p ⟨kind,n,k⟩ = prt p n k := by unfold hasX;rw [if_neg hk2];rfl
  have a2 : didX s ⟨kind,n,k⟩ = bAt s.rd n k := by unfold didX;rw [if_neg hk2];rfl
  refine WP.skip ?_;show Shift _ _ _ _
  exact Shift.sub [(0,0)] rfl (SubE.cons rfl (SLe.im (ILe.bool a1.symm)) (SubE.cons rfl (SLe.im (ILe.bool a2.symm)) SubE.a)) SubH.a
 refine zB ?_
 (refine zR ?_;(iterate 3 refine sA ?_);refine zN ?_)
 refine zC (fun h => ?_) (fun h => ?_)
 ·have hr : doE p s ⟨kind,n,k⟩ = 5 := by rw [hd,if_pos (by simpa using h)]
  rw [hx0 _ (by omega) hr,hr]
  (refine zR ?_;(iterate 3 refine sA ?_);refine zN ?_)
  exact zT Tryz.results95
 rw [if_neg (by simpa using h)] at hd
 clear h
 (refine zR ?_;(iterate 2 refine sA ?_);refine zN ?_)
 refine zC (fun h => ?_) (fun h => ?_)
 ·have hr : doE p s ⟨kind,n,k⟩ = 7 := by rw [hd,if_pos (by simpa using h)]
  rw [hx0 _ (by omega) hr,hr]
  (refine zR ?_;(iterate 3 refine sA ?_);refine zN ?_)
  exact zT Tryz.results95
 rw [if_neg (by simpa using h)] at hd
 clear h
 (refine zR ?_;(iterate 2 refine sA ?_);refine ALK.n (o3 (may_fn p s kind n k v.plan hB hn hk) (Evs.cons Ev.a (Evs.cons Ev.a Evs.nil))) rfl ?_;(iterate 2 refine sA ?_);refine zN ?_)
 refine zC (fun h => ?_) (fun h => ?_)
 ·have hr : doE p s ⟨kind,n,k⟩ = 6 := by rw [hd];exact if_pos (by simpa using h)
  rw [hx0 _ (by omega) hr,hr]
  (refine zR ?_;(iterate 3 refine sA ?_);refine zN ?_)
  exact zT Tryz.results95
 have hmay : mayB p s kind n k = true := by simpa using h
 have hstep : Step p s kind n k := ⟨hkd,hn,hk,hmay⟩
 have hr : doE p s ⟨kind,n,k⟩ = 0 := by rw [hd];exact if_neg (by rw [Int.toNat_natCast,Int.toNat_natCast,hmay];simp)
 have hr2 : doS p s ⟨kind,n,k⟩ = turnS p s kind n k := by unfold doS;rw [if_pos hr];rfl
 clear h
 rw [hr2,hr]
 refine zS ?_
 have b5 : ∀ l ∈ s.rd,l.length ≤ 1000 := jZ fun i hi => by rw [v.rdr i (by rw [v.rdl] at hi;exact hi)];omega
 have b6 : ∀ l ∈ s.wr,l.length ≤ 1000 := jZ fun i hi => by rw [v.wrr i (by rw [v.wrl] at hi;exact hi)];omega
 have b7 : ∀ l ∈ s.vals,l.length ≤ 1000 := len_le fun i hi => by
  have hi' : i < nT p := by rw [v.vall] at hi;exact hi
  rw [v.valr i hi']
  have := Valid.reads4 v.plan hi'
  omega
 have hown := Own_new s (by rw [v.store];omega) (by rw [v.rdl];exact hn8) (by rw [v.wrl,v.rdl]) (by rw [v.vall,v.rdl]) b5 b6 b7
 (refine zR ?_;refine sA ?_;refine ALK.e (o5 [] hown EvsS.a rfl rfl rfl HIn.a) rfl rfl ?_;(iterate 2 refine sA ?_);refine zN ?_)
 (refine zR ?_;(iterate 2 refine sA ?_);refine ALK.e (j6 [50,1,2,3,4,5,6,7,8,9,10,11,12,13,14,15,16,17,18,19,20,21,22,23,24,25,26,27,28,29,30,31,32,33,34,35,36,37,38,39,40,41,42,43,44,45,46,47,48,49] (turnH 50 51 52 68 84 (turnS p s kind n k) ++ [(0,.blk 38 [.im (IV.val (.slice none 0 0)),.im (IV.val (.slice none 0 0)),.im (IV.val (.slice none 0 0)),.im (IV.val (.slice none 0 0))])]) (.im (IV.tup [])) 100 (Turn_new p s kind n k v hB hstep) EvsS.a HIn.a rfl (by kernel_rfl) rfl rfl (by kernel_rfl) (by kernel_rfl) (by kernel_rfl)) rfl rfl ?_;refine zN ?_)
 generalize turnS p s kind n k = s'
 refine WP.shift (Shift.sub (σ' := [(12,.off 1 0),(6,.off 0 0)]) (H' := (0,.blk 38 [.im (IV.val (.slice none 0 0)),.im (IV.val (.slice none 0 0)),.im (IV.val (.slice none 0 0)),.im (IV.val (.slice none 0 0))]) :: turnH 1 2 3 19 35 s') (fr' := 51) ([(0,0),(1,50),(2,51)] ++ rnN 3 52 ++ rnN 19 68 ++ rnN 35 84) rfl SubE.a (SubH.cons rfl rfl (ObLe.blk SLes.a) (SubH.cons rfl rfl (ObLe.blk SLes.a) (SubH.cons rfl rfl (ObLe.row rfl) (SubH.cons rfl rfl (ObLe.nest rfl) (SubH.cons rfl rfl (ObLe.nest rfl) (SubH.cons rfl rfl (ObLe.nest rfl) SubH.nil))))))) ?_
 refine WP.shift (Shift.frzIn 1 0 rfl rfl rfl rfl) ?_
 refine WP.shift (Shift.frzNestIn 1 1 rfl rfl rfl rfl) ?_
 refine WP.shift (Shift.frzNestIn 1 2 rfl rfl rfl rfl) ?_
 refine WP.shift (Shift.frzNestIn 1 3 rfl rfl rfl rfl) ?_
 (refine zR ?_;(iterate 3 refine sA ?_);refine zN ?_)
 exact zT Tryz.results95
end Go.Proofs.YtjgmbgfcffnanaaGreatDoor
