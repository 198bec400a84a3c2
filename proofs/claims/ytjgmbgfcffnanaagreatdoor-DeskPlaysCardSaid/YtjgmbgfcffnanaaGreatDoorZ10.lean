/- Package store and its reference: Serial, the reference's answers. Package graph: Swap; slices.Concat at transactions. The law GraphTrue returns true. The laws of package store return true. -/
import Derived.Test.YtjgmbgfcffnanaaGreatDoorZ9
set_option maxRecDepth 100000
namespace Go.Proofs.YtjgmbgfcffnanaaGreatDoor
open Go.RowKit
theorem serR_snoc (st : List Int) (l : List Txn) (t : Txn) : serR st (l ++ [t]) = serR st l ++ [applyR (serS st l) t] := by rw [serR_append];rfl
theorem store_Serial_fn (st : List Int) (l : List Txn) (hb : TxsB l) : Fn CC 91 [intsV st,txsV l] (IV.tup [intsV (serL st l),ressV (serV st l),IV.int (serE st l)]) := by
 refine Fn.of_wp _ Tryz.func91 rfl (by kernel_rfl) Tryz.ntmps91 rfl ?_
 intro F hD hG
 (refine zR ?_;(iterate 3 refine sA ?_);refine zN ?_)
 (refine zR ?_;refine sA ?_;refine ALK.n (o3 (yP st) (Evs.cons Ev.a Evs.nil)) rfl ?_;refine sA ?_;refine zN ?_)
 (refine zR ?_;(iterate 2 refine sA ?_);refine zN ?_)
 refine zC (fun h => ?_) (fun h => ?_)
 ·have hne : ¬ st.length = 8 := by intro e;simp [e] at h
  have hr : serE st l = 1 := by unfold serE;rw [if_neg hne]
  have hr1 : serL st l = [] := by unfold serL;rw [hr];rfl
  have hr2 : serV st l = [] := by unfold serV;rw [hr];rfl
  rw [hr,hr1,hr2,if_neg hne]
  (refine zR ?_;(iterate 4 refine sA ?_);refine zN ?_)
  exact zT Tryz.results91
 refine zS ?_
 have hst : st.length = 8 := by
  by_cases e : st.length = 8
  ·exact e
  ·simp [e] at h
 have hr : serE st l = checkTxns l := by unfold serE;rw [if_pos hst]
 (refine zR ?_;refine sA ?_;refine ALK.n (o3 (vj _ (by assumption)) (Evs.cons Ev.a Evs.nil)) rfl ?_;refine sA ?_;refine zN ?_)
 (refine zR ?_;(iterate 2 refine sA ?_);refine zN ?_)
 refine zC (fun h => ?_) (fun h => ?_)
 ·(refine zR ?_;(iterate 4 refine sA ?_);refine zN ?_)
  have hne : ¬ checkTxns l = 0 := by simpa using h
  have hr1 : serL st l = [] := by unfold serL;rw [hr,if_neg hne]
  have hr2 : serV st l = [] := by unfold serV;rw [hr,if_neg hne]
  rw [hr,hr1,hr2]
  exact zT Tryz.results91
 refine zS ?_
 have h0 : checkTxns l = 0 := by simpa using h
 obtain ⟨hl8,hall⟩ := y7 h0
 (refine zR ?_;refine sA ?_;refine ALK.a (yp (qF st (by omega)) (Evs.cons Ev.a Evs.nil)) rfl ?_;refine sA ?_;refine zN ?_)
 rw [hst]
 (refine zR ?_;refine sA ?_;refine zN ?_)
 refine WP.shift (Shift.row0 10 163 2 cR (fun _ => rfl) rfl) ?_
 (refine zR ?_;(iterate 3 refine sA ?_);refine zN ?_)
 refine zB ?_
 refine WP.loop (fun k : Nat => ⟨[(27,.im (IV.int k)),(25,.im (txsV l)),(26,.im (IV.int l.length)),(9,.row 0 8),(10,.row 1 k)],[(0,.row 3 1 cI (serS st (l.take k))),(1,.row 163 2 cR (serR st (l.take k)))],2⟩) (fun k => k ≤ l.length) (fun k => l.length - k) 0 (Nat.zero_le _) (Shift.sub [(0,0),(1,1)] rfl SubE.a (SubH.cons rfl rfl (ObLe.row rfl) (SubH.cons rfl rfl (ObLe.row rfl) SubH.nil))) ?_
 rintro k hk
 (refine zR ?_;refine sA ?_;refine zN ?_)
 refine zC (fun h => ?_) (fun h => ?_)
 ·refine zS ?_
  have hlt : k < l.length := by simpa using h
  obtain ⟨t,ht⟩ := oc hlt
  have hbt := hb t (List.mem_of_getElem? ht)
  have hok := hall t (List.mem_of_getElem? ht)
  have hn1 : serS st (l.take (k + 1)) = applyS (serS st (l.take k)) t := by rw [yg ht,serS_snoc]
  have hn2 : serR st (l.take (k + 1)) = serR st (l.take k) ++ [applyR (serS st (l.take k)) t] := by rw [yg ht,serR_snoc]
  have hn3 : (serR st (l.take k)).length + [applyR (serS st (l.take k)) t].length = k + 1 := by rw [qc,List.length_take];simp;omega
  refine zB ?_
  (refine zR ?_;(iterate 4 refine sA ?_);refine zN ?_)
  (refine zR ?_;(iterate 3 refine sA ?_);refine ALK.e (o5 [0] (store_Do_fn (serS st (l.take k)) t (by rw [serS_len,hst]) hbt hok) EvsS.a rfl rfl rfl HIn.a) rfl rfl ?_;refine ALK.n (o6 rfl rfl rfl rfl rfl rfl (Pc rfl (eB rfl) Cs.a rfl rfl Parts.nil) rfl) rfl ?_;refine ALK.e (o8 (b := 32) [applyR (serS st (l.take k)) t] rfl rfl rfl rfl rfl (eB rfl) (eB rfl) rfl rfl (by rw [qc,List.length_take];simp;omega) rfl) rfl rfl ?_;refine sA ?_;refine zN ?_)
  (refine zR ?_;(iterate 2 refine sA ?_);refine zN ?_)
  show ∃ _,_ ∧ _ ∧ _
  exact ⟨k + 1,by omega,by omega,Shift.sub [(0,0),(1,3)] rfl SubE.a (SubH.cons rfl rfl (ObLe.row hn1.symm) (SubH.cons rfl rfl (ObLe.row hn2.symm) SubH.nil))⟩
 ·refine zE ?_
  rw [List.take_of_length_le (by simp at h;omega)]
  refine WP.shift (Shift.frzRow 9 rfl rfl) ?_
  refine WP.shift (Shift.frzRow 10 rfl rfl) ?_
  (refine zR ?_;(iterate 5 refine sA ?_);refine zN ?_)
  have hr1 : serL st l = serS st l := by unfold serL;rw [hr,if_pos h0]
  have hr2 : serV st l = serR st l := by unfold serV;rw [hr,if_pos h0]
  rw [hr,hr1,hr2,h0]
  exact zT Tryz.results91
theorem ref_apply_fn (st : List Int) (t : Txn) (hst : st.length = 8) (hb : TxnB t) (hok : checkTxn t = 0) : Fn CC 145 [intsV st,txnV t] (IV.tup [intsV (applyS st t),resV (applyR st t)]) := by
 obtain ⟨hk1,hk2⟩ := yj hok
 have hsz := (y6 hok).1
 obtain ⟨hz1,hz2,hz3,hz4⟩ := hsz
 refine Fn.of_wp _ Tryz.func145 rfl (by kernel_rfl) Tryz.ntmps145 rfl ?_
 intro F hD hG
 (refine zR ?_;(iterate 3 refine sA ?_);refine zN ?_)
 (refine zR ?_;refine sA ?_;refine zN ?_)
 refine WP.shift (Shift.row0 6 3 1 cI (fun _ => rfl) rfl) ?_
 (refine zR ?_;refine sA ?_;refine zN ?_)
 refine zB ?_
 refine WP.loop (fun k : Nat => ⟨[(7,.im (IV.int k)),(6,.row 0 k),(0,.im (intsV st)),(3,.im (IV.ptr (cT t))),(5,.off 1 0)],[(0,.row 3 1 cI ((t.reads.take k).map (rdF st))),(1,.blk 163 [.im (IV.bool false),.im (IV.val (.slice none 0 0))])],2⟩) (fun k => k ≤ t.reads.length) (fun k => t.reads.length - k) 0 (Nat.zero_le _) (Shift.sub [(0,1),(1,0)] rfl SubE.a (SubH.cons rfl rfl (ObLe.row rfl) (SubH.cons rfl rfl (ObLe.blk SLes.a) SubH.nil))) ?_
 rintro k hk
 (refine zR ?_;refine sA ?_;refine fd 0 ?_;(iterate 3 refine sA ?_);refine zN ?_)
 refine zC (fun h => ?_) (fun h => ?_)
 ·refine zS ?_
  have hlt : k < t.reads.length := by simpa using h
  obtain ⟨q,hq⟩ := oc hlt
  obtain ⟨hq0,hq8⟩ := hk1 q (List.mem_of_getElem? hq)
  have hy := rdF_at (st := st) hq0 (by omega)
  have hn : (t.reads.take (k + 1)).map (rdF st) = (t.reads.take k).map (rdF st) ++ [rdF st q] := by rw [yg hq,List.map_append];rfl
  have hl : ((t.reads.take k).map (rdF st)).length + [rdF st q].length = k + 1 := by simp;omega
  refine zB ?_
  (refine zR ?_;(iterate 2 refine sA ?_);refine fd 0 ?_;(iterate 6 refine sA ?_);refine ALK.n (o6 rfl rfl rfl rfl rfl rfl (Pc rfl (eB rfl) Cs.a rfl rfl Parts.nil) rfl) rfl ?_;refine ALK.e (o8 (b := 8) [rdF st q] rfl rfl rfl rfl rfl (eB rfl) (eB rfl) rfl rfl (by simp;omega) rfl) rfl rfl ?_;refine sA ?_;refine zN ?_)
  (refine zR ?_;(iterate 3 refine sA ?_);refine zN ?_)
  show ∃ _,_ ∧ _ ∧ _
  exact ⟨k + 1,by omega,by omega,Shift.sub [(0,2),(1,1)] rfl SubE.a (SubH.cons rfl rfl (ObLe.row hn.symm) (SubH.cons rfl rfl (ObLe.blk SLes.a) SubH.nil))⟩
 ·refine zE ?_
  have hk2' : k = t.reads.length := by simp at h;omega
  subst hk2'
  rw [List.take_length]
  refine WP.shift (Shift.frzRow 6 rfl rfl) ?_
  (refine zR ?_;(iterate 2 refine sA ?_);refine ALK.n (o3 (jo t (readsOf st t) hb hok (by simp [readsOf])) (Evs.cons Ev.a (Evs.cons Ev.a Evs.nil))) rfl ?_;(iterate 6 refine sA ?_);refine zN ?_)
  refine WP.shift (Shift.frzBlk 8 rfl rfl rfl) ?_
  have hle := uL (t := t) (xs := readsOf st t)
  obtain ⟨l,hl⟩ : ∃ l,l = runSets t (readsOf st t) := ⟨_,rfl⟩
  rw [← hl] at hle ⊢
  (refine zR ?_;refine ALK.a (uu cI rfl rfl (fun _ => rfl)) rfl ?_;refine sA ?_;refine ALK.e (o8 (b := 8) st rfl rfl rfl rfl rfl (eB rfl) (eB rfl) rfl rfl (by simp;omega) rfl) rfl rfl ?_;refine sA ?_;refine zN ?_)
  rw [List.nil_append,show ([] : List Int).length + st.length = 8 by simp [hst]]
  (refine zR ?_;refine sA ?_;refine zN ?_)
  refine zB ?_
  refine WP.loop (fun j : Nat => ⟨[(11,.im (IV.int j)),(9,.im (intsV l)),(10,.row 0 8),(3,.im (IV.ptr (cT t))),(5,.off 1 0),(8,.im (IV.ptr (cR (applyR st t))))],[(0,.row 3 1 cI (putZ st ((t.sets.zip l).take j))),(1,.blk 163 [.im (IV.bool false),.im (IV.val (.slice none 0 0))])],2⟩) (fun j => j ≤ l.length) (fun j => l.length - j) 0 (Nat.zero_le _) (Shift.sub [(0,4),(1,1)] rfl SubE.a (SubH.cons rfl rfl (ObLe.row rfl) (SubH.cons rfl rfl (ObLe.blk SLes.a) SubH.nil))) ?_
  rintro j hj
  (refine zR ?_;(iterate 4 refine sA ?_);refine zN ?_)
  refine zC (fun h => ?_) (fun h => ?_)
  ·refine zS ?_
   have hjl : j < l.length := by simpa using h
   obtain ⟨n,hn⟩ := oc hjl
   obtain ⟨s,hs⟩ := oc (xs := t.sets) (k := j) (by omega)
   obtain ⟨hs0,hs8⟩ := hk2 s.key (List.mem_map.2 ⟨s,List.mem_of_getElem? hs,rfl⟩)
   have hpl : s.key.toNat < (putZ st ((t.sets.zip l).take j)).length := by rw [yN];omega
   have hz : (t.sets.zip l)[j]? = some (s,n) := by rw [List.getElem?_zip_eq_some];exact ⟨hs,hn⟩
   refine zB ?_
   (refine zW ?_;refine sA ?_;refine fd 2 ?_;(iterate 3 refine sA ?_);refine fd 0 ?_;(iterate 7 refine sA ?_);refine zD ?_)
   (refine zR ?_;(iterate 3 refine sA ?_);refine zN ?_)
   show ∃ _,_ ∧ _ ∧ _
   exact ⟨j + 1,by omega,by omega,Shift.sub [(0,0),(1,1)] rfl SubE.a (SubH.cons rfl rfl (ObLe.row (putZ_push hz).symm) (SubH.cons rfl rfl (ObLe.blk SLes.a) SubH.nil))⟩
  ·refine zE ?_
   have hjl : (t.sets.zip l).length ≤ j := by simp at h;rw [List.length_zip];omega
   rw [List.take_of_length_le hjl]
   refine WP.shift (Shift.frzRow 10 rfl rfl) ?_
   (refine zW ?_;(iterate 4 refine sA ?_);refine zD ?_)
   rw [hl]
   exact zT Tryz.results145
theorem SerialOf_fn (st : List Int) (l : List Txn) (hb : TxsB l) : Fn CC 106 [intsV st,txsV l] (IV.tup [intsV (serL st l),ressV (serV st l),IV.int (serE st l)]) := by
 refine Fn.of_wp _ Tryz.func106 rfl (by kernel_rfl) Tryz.ntmps106 rfl ?_
 intro F hD hG
 (refine zR ?_;(iterate 3 refine sA ?_);refine zN ?_)
 (refine zR ?_;refine sA ?_;refine ALK.n (o3 (vq st) (Evs.cons Ev.a Evs.nil)) rfl ?_;refine sA ?_;refine zN ?_)
 refine zC (fun h => ?_) (fun h => ?_)
 ·have hne : ¬ st.length = 8 := by simpa using h
  have hr : serE st l = 1 := by unfold serE;rw [if_neg hne]
  have hr1 : serL st l = [] := by unfold serL;rw [hr];rfl
  have hr2 : serV st l = [] := by unfold serV;rw [hr];rfl
  rw [hr,hr1,hr2]
  (refine zR ?_;(iterate 3 refine sA ?_);refine zN ?_)
  exact zT Tryz.results106
 refine zS ?_
 have hst : st.length = 8 := by simpa using h
 have hr : serE st l = checkTxns l := by unfold serE;rw [if_pos hst]
 (refine zR ?_;refine sA ?_;refine ALK.n (o3 (qQ _ (by assumption)) (Evs.cons Ev.a Evs.nil)) rfl ?_;refine sA ?_;refine zN ?_)
 (refine zR ?_;(iterate 2 refine sA ?_);refine zN ?_)
 refine zC (fun h => ?_) (fun h => ?_)
 ·(refine zR ?_;(iterate 4 refine sA ?_);refine zN ?_)
  have hne : ¬ checkTxns l = 0 := by simpa using h
  have hr1 : serL st l = [] := by unfold serL;rw [hr,if_neg hne]
  have hr2 : serV st l = [] := by unfold serV;rw [hr,if_neg hne]
  rw [hr,hr1,hr2]
  exact zT Tryz.results106
 refine zS ?_
 have h0 : checkTxns l = 0 := by simpa using h
 obtain ⟨hl8,hall⟩ := y7 h0
 (refine zR ?_;refine ALK.a (uu cI rfl rfl (fun _ => rfl)) rfl ?_;refine sA ?_;refine ALK.e (o8 (b := 8) st rfl rfl rfl rfl rfl (eB rfl) (eB rfl) rfl rfl (by simp;omega) rfl) rfl rfl ?_;refine sA ?_;refine zN ?_)
 refine WP.shift (Shift.frzRow 8 rfl rfl) ?_
 rw [List.nil_append]
 (refine zR ?_;refine sA ?_;refine zN ?_)
 refine WP.shift (Shift.row0 9 163 2 cR (fun _ => rfl) rfl) ?_
 (refine zR ?_;refine sA ?_;refine zN ?_)
 refine zB ?_
 refine WP.loop (fun k : Nat => ⟨[(10,.im (IV.int k)),(1,.im (txsV l)),(8,.im (intsV (serS st (l.take k)))),(9,.row 0 k)],[(0,.row 163 2 cR (serR st (l.take k)))],1⟩) (fun k => k ≤ l.length) (fun k => l.length - k) 0 (Nat.zero_le _) (Shift.sub [(0,2)] rfl SubE.a (SubH.cons rfl rfl (ObLe.row rfl) SubH.nil)) ?_
 rintro k hk
 (refine zR ?_;(iterate 4 refine sA ?_);refine zN ?_)
 refine zC (fun h => ?_) (fun h => ?_)
 ·refine zS ?_
  have hlt : k < l.length := by simpa using h
  obtain ⟨t,ht⟩ := oc hlt
  have hbt := hb t (List.mem_of_getElem? ht)
  have hok := hall t (List.mem_of_getElem? ht)
  have hn1 : serS st (l.take (k + 1)) = applyS (serS st (l.take k)) t := by rw [yg ht,serS_snoc]
  have hn2 : serR st (l.take (k + 1)) = serR st (l.take k) ++ [applyR (serS st (l.take k)) t] := by rw [yg ht,serR_snoc]
  have hn3 : (serR st (l.take k)).length + [applyR (serS st (l.take k)) t].length = k + 1 := by rw [qc,List.length_take];simp;omega
  refine zB ?_
  (refine zR ?_;refine sA ?_;refine zN ?_)
  (refine zR ?_;(iterate 5 refine sA ?_);refine ALK.n (o3 (ref_apply_fn (serS st (l.take k)) t (by rw [serS_len,hst]) hbt hok) (Evs.cons Ev.a (Evs.cons Ev.a Evs.nil))) rfl ?_;(iterate 5 refine sA ?_);refine zN ?_)
  rw [← hn1]
  refine WP.shift (Shift.frzBlk 11 rfl rfl rfl) ?_
  (refine zR ?_;(iterate 2 refine sA ?_);refine ALK.n (o6 rfl rfl rfl rfl rfl rfl (Pc rfl (eB rfl) Cs.a rfl rfl Parts.nil) rfl) rfl ?_;refine ALK.e (o8 (b := 32) [applyR (serS st (l.take k)) t] rfl rfl rfl rfl rfl (eB rfl) (eB rfl) rfl rfl (by rw [qc,List.length_take];simp;omega) rfl) rfl rfl ?_;refine sA ?_;refine zN ?_)
  (refine zR ?_;(iterate 3 refine sA ?_);refine zN ?_)
  show ∃ _,_ ∧ _ ∧ _
  exact ⟨k + 1,by omega,by omega,Shift.sub [(0,2)] rfl SubE.a (SubH.cons rfl rfl (ObLe.row hn2.symm) SubH.nil)⟩
 ·refine zE ?_
  rw [List.take_of_length_le (by simp at h;omega)]
  refine WP.shift (Shift.frzRow 9 rfl rfl) ?_
  (refine zR ?_;(iterate 5 refine sA ?_);refine zN ?_)
  have hr1 : serL st l = serS st l := by unfold serL;rw [hr,if_pos h0]
  have hr2 : serV st l = serR st l := by unfold serV;rw [hr,if_pos h0]
  rw [hr,hr1,hr2,h0]
  exact zT Tryz.results106
theorem SameResults_fn (xs ys : List Res) : Fn CC 108 [ressV xs,ressV ys] (IV.bool (decide (xs = ys))) := by
 refine Fn.of_wp _ Tryz.func108 rfl (by kernel_rfl) Tryz.ntmps108 rfl ?_
 intro F hD hG
 refine WP.len 0 rfl (fun hl1 => ?_)
 refine WP.len 1 rfl (fun hl2 => ?_)
 (refine zR ?_;refine sA ?_;refine zN ?_)
 (refine zR ?_;(iterate 5 refine sA ?_);refine zN ?_)
 refine zC (fun h => ?_) (fun h => ?_)
 ·(refine zR ?_;refine sA ?_;refine zN ?_)
  have hr : decide (xs = ys) = false := by
   simp only [bne_iff_ne,ne_eq] at h
   exact decide_eq_false fun e => h (by rw [e])
  exact zT Tryz.results108
 refine zS ?_
 have hlen : xs.length = ys.length := by simp at h;omega
 (refine zR ?_;refine sA ?_;refine zN ?_)
 refine zB ?_
 refine WP.loop (fun k : Nat => ⟨[(5,.im (IV.int k)),(0,.im (ressV xs)),(1,.im (ressV ys))],[],0⟩) (fun k => k ≤ xs.length ∧ xs.take k = ys.take k) (fun k => xs.length - k) 0 ⟨Nat.zero_le _,rfl⟩ (Shift.sub [] rfl SubE.a SubH.nil) ?_
 rintro k ⟨hk,he⟩
 (refine zR ?_;(iterate 4 refine sA ?_);refine zN ?_)
 refine zC (fun h => ?_) (fun h => ?_)
 ·refine zS ?_
  have hlt : k < xs.length := by simpa using h
  obtain ⟨x,hx⟩ := oc hlt
  obtain ⟨y,hy⟩ := oc (xs := ys) (k := k) (by omega)
  refine zB ?_
  (refine zW ?_;(iterate 3 refine sA ?_);refine fd 0 ?_;(iterate 4 refine sA ?_);refine fd 0 ?_;(iterate 3 refine sA ?_);(iterate 3 refine gA ?_);refine gF 1 ?_;(iterate 4 refine gA ?_);refine gF 1 ?_;refine gA ?_;refine ALK.g (fun hb => o3 (SameInts_fn _ _) (Evs.cons Ev.a (Evs.cons Ev.a Evs.nil))) rfl rfl rfl ?_;refine gA ?_;refine sA ?_;refine zD ?_)
  refine zC (fun h => ?_) (fun h => ?_)
  ·(refine zR ?_;refine sA ?_;refine zN ?_)
   have hr : decide (xs = ys) = false := decide_eq_false (ne_at hx hy fun e => by subst e;simp at h)
   exact zT Tryz.results108
  refine zS ?_
  (refine zR ?_;(iterate 3 refine sA ?_);refine zN ?_)
  show ∃ _,_ ∧ _ ∧ _
  have hxy : x = y := by
   obtain ⟨a,b⟩ := x
   obtain ⟨c,d⟩ := y
   simp at h
   rw [h.1,h.2]
  exact ⟨k + 1,⟨by omega,uR he hx hy hxy⟩,by omega,(Shift.sub [] rfl SubE.a SubH.nil)⟩
 ·refine zE ?_
  (refine zR ?_;refine sA ?_;refine zN ?_)
  have hr : decide (xs = ys) = true := decide_eq_true (qu he (by simp at h;omega) hlen)
  exact zT Tryz.results108
theorem serE_zero {s : List Int} {l : List Txn} (h : serE s l = 0) : s.length = 8 ∧ checkTxns l = 0 := by
 unfold serE at h
 split at h
 ·exact ⟨by assumption,h⟩
 ·cases h
theorem serL_of {s : List Int} {l : List Txn} (h : serE s l = 0) : serL s l = serS s l := by unfold serL;rw [if_pos h]
theorem serV_of {s : List Int} {l : List Txn} (h : serE s l = 0) : serV s l = serR s l := by unfold serV;rw [if_pos h]
end Go.Proofs.YtjgmbgfcffnanaaGreatDoor
