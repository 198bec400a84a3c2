/- The reference's own states: OwnState and BeginOf. The reference's BeginOf, done and DoOf. -/
import Derived.Test.YtjgmbgfcffnanaaGreatDoorZ25
set_option maxRecDepth 100000
set_option maxHeartbeats 4000000
namespace Go.Proofs.YtjgmbgfcffnanaaGreatDoor
open Go.RowKit
theorem OwnState_new (s : StT) (h1 : s.store.length ≤ 1000) (h2 : s.rd.length ≤ 8) (h3 : s.wr.length ≤ 8) (h4 : s.vals.length ≤ 8) (h5 : ∀ l ∈ s.rd,l.length ≤ 1000) (h6 : ∀ l ∈ s.wr,l.length ≤ 1000) (h7 : ∀ l ∈ s.vals,l.length ≤ 1000) :
 FnE CC 141 0 [.im (stV s)] [] (ownSV s 0 1 17 33) (ownH s 0 1 17 33) 49 [] := by
 refine FnE.of_wp _ [] Tryz.func141 rfl (by kernel_rfl) Tryz.ntmps141 rfl rfl rfl rfl rfl rfl rfl rfl rfl ?_
 intro F vs hD hvs
 obtain ⟨v0,rfl⟩ := len1 hvs
 show WP _ _ _ _ _ ⟨[(0,.im (stV s))],[],0⟩
 (refine zR ?_;(iterate 2 refine sA ?_);refine zN ?_)
 (refine zR ?_;refine ALK.a (uu cI rfl rfl (fun _ => rfl)) rfl ?_;refine fd 0 ?_;refine sA ?_;refine ALK.e (o8 (b := 8) s.store rfl rfl rfl rfl rfl (eB rfl) (eB rfl) rfl rfl (by simp only [List.length_nil];omega) rfl) rfl rfl ?_;(iterate 3 refine sA ?_);refine zN ?_)
 refine WP.shift (Shift.nest0In 3 1 101 4 1 cB (fun _ => rfl) rfl rfl rfl) ?_
 refine WP.shift (Shift.nest0In 3 2 101 4 1 cB (fun _ => rfl) rfl rfl rfl) ?_
 refine WP.shift (Shift.nest0In 3 3 34 3 1 cI (fun _ => rfl) rfl rfl rfl) ?_
 (refine zR ?_;refine sA ?_;refine zN ?_)
 refine zB ?_
 refine WP.loop (fun n : Nat => ⟨[(4,.im (IV.int n)),(1,.im (IV.ptr (cSt s))),(2,.off 0 0),(3,.off 2 0)],[(0,.blk 38 [.im (IV.val (.slice none 0 0)),.im (IV.val (.slice none 0 0)),.im (IV.val (.slice none 0 0)),.im (IV.val (.slice none 0 0))]),(1,rowI s.store),(2,.blk 38 [.row 1 s.store.length,.row 3 n,.row 19 0,.row 35 0]),(3,nestB (s.rd.take n)),(19,nestB []),(35,nestI [])],51⟩) (fun n => n ≤ s.rd.length) (fun n => s.rd.length - n) 0 (Nat.zero_le _)
  (Shift.sub ([(0,0),(1,2),(2,3)] ++ rnN 3 4 ++ rnN 19 20 ++ rnN 35 36) rfl SubE.a (SubH.cons rfl rfl (ObLe.blk SLes.a) (SubH.cons rfl rfl (ObLe.row (by simp)) (SubH.cons rfl rfl (ObLe.blk (SLes.cons (SLe.row rfl (by simp)) SLes.a)) (SubH.cons rfl rfl (ObLe.nest rfl) (SubH.cons rfl rfl (ObLe.nest rfl) (SubH.cons rfl rfl (ObLe.nest rfl) SubH.nil))))))) ?_
 rintro n hn
 (refine zR ?_;refine sA ?_;refine fd 1 ?_;(iterate 3 refine sA ?_);refine zN ?_)
 refine zC (fun h => ?_) (fun h => ?_)
 ·refine zS ?_
  have hlt : n < s.rd.length := by simpa using h
  have e1 : s.rd[n]? = some (s.rd.getD n []) := o9 [] hlt
  have b1 := h5 _ (List.mem_of_getElem? e1)
  refine zB ?_
  by_cases hne : s.rd.getD n [] = []
  ·rw [hne] at e1
   (refine zW ?_;refine fd 1 ?_;refine sA ?_;refine ALK.a (uu cB rfl rfl (fun _ => rfl)) rfl ?_;refine fd 1 ?_;(iterate 4 refine sA ?_);refine ALK.n (qA rfl (eB rfl) (eB rfl)) rfl ?_;refine ALK.n (od rfl rfl rfl rfl rfl rfl (Pc rfl (eB rfl) Cs.a rfl rfl Parts.nil)) rfl ?_;refine ALK.e (oq rfl rfl rfl rfl (eB rfl) (eB rfl) rfl rfl rfl (by rw [List.length_take];omega)) rfl rfl ?_;refine fd 1 ?_;refine sA ?_;refine zD ?_)
   (refine zR ?_;(iterate 3 refine sA ?_);refine zN ?_)
   show ∃ _,_ ∧ _ ∧ _
   exact ⟨n + 1,by omega,by omega,Shift.sub ([(0,0),(1,1),(2,2)] ++ rnN 3 52 ++ rnN 19 19 ++ rnN 35 35) rfl SubE.a (SubH.cons rfl rfl (ObLe.blk SLes.a) (SubH.cons rfl rfl (ObLe.row rfl) (SubH.cons rfl rfl (ObLe.blk (SLes.cons SLe.a (SLes.cons (SLe.row rfl (by rw [List.length_take];omega)) SLes.a))) (SubH.cons rfl rfl (ObLe.nest (by rw [yE hlt,hne])) (SubH.cons rfl rfl (ObLe.nest rfl) (SubH.cons rfl rfl (ObLe.nest rfl) SubH.nil))))))⟩
  ·(refine zW ?_;refine fd 1 ?_;refine sA ?_;refine ALK.n (od rfl rfl rfl rfl rfl rfl Parts.nil) rfl ?_;refine fd 1 ?_;(iterate 4 refine sA ?_);refine ALK.a (uC (b := 1) (enc := cB) (s.rd.getD n []) rfl rfl rfl rfl rfl (fun _ => rfl) (eB rfl) (eB rfl) rfl hne (by omega) rfl) rfl ?_;refine ALK.n (od rfl rfl rfl rfl rfl rfl (Pc rfl (eB rfl) Cs.a rfl rfl Parts.nil)) rfl ?_;refine ALK.e (oq rfl rfl rfl rfl (eB rfl) (eB rfl) rfl rfl rfl (by rw [List.length_take];omega)) rfl rfl ?_;refine fd 1 ?_;refine sA ?_;refine zD ?_)
   (refine zR ?_;(iterate 3 refine sA ?_);refine zN ?_)
   show ∃ _,_ ∧ _ ∧ _
   exact ⟨n + 1,by omega,by omega,Shift.sub ([(0,0),(1,1),(2,2)] ++ rnN 3 52 ++ rnN 19 19 ++ rnN 35 35) rfl SubE.a (SubH.cons rfl rfl (ObLe.blk SLes.a) (SubH.cons rfl rfl (ObLe.row rfl) (SubH.cons rfl rfl (ObLe.blk (SLes.cons SLe.a (SLes.cons (SLe.row rfl (by rw [List.length_take];omega)) SLes.a))) (SubH.cons rfl rfl (ObLe.nest (yE hlt).symm) (SubH.cons rfl rfl (ObLe.nest rfl) (SubH.cons rfl rfl (ObLe.nest rfl) SubH.nil))))))⟩
 refine zE ?_
 have hn2 : n = s.rd.length := by simp at h;omega
 subst hn2
 rw [List.take_length]
 clear h hn
 (refine zR ?_;refine sA ?_;refine zN ?_)
 refine zB ?_
 refine WP.loop (fun n : Nat => ⟨[(5,.im (IV.int n)),(1,.im (IV.ptr (cSt s))),(2,.off 0 0),(3,.off 2 0)],[(0,.blk 38 [.im (IV.val (.slice none 0 0)),.im (IV.val (.slice none 0 0)),.im (IV.val (.slice none 0 0)),.im (IV.val (.slice none 0 0))]),(1,rowI s.store),(2,.blk 38 [.row 1 s.store.length,.row 3 s.rd.length,.row 19 n,.row 35 0]),(3,nestB s.rd),(19,nestB (s.wr.take n)),(35,nestI [])],51⟩) (fun n => n ≤ s.wr.length) (fun n => s.wr.length - n) 0 (Nat.zero_le _)
  (Shift.sub ([(0,0),(1,1),(2,2)] ++ rnN 3 3 ++ rnN 19 19 ++ rnN 35 35) rfl SubE.a (SubH.cons rfl rfl (ObLe.blk SLes.a) (SubH.cons rfl rfl (ObLe.row rfl) (SubH.cons rfl rfl (ObLe.blk SLes.a) (SubH.cons rfl rfl (ObLe.nest rfl) (SubH.cons rfl rfl (ObLe.nest rfl) (SubH.cons rfl rfl (ObLe.nest rfl) SubH.nil))))))) ?_
 rintro n hn
 (refine zR ?_;refine sA ?_;refine fd 2 ?_;(iterate 3 refine sA ?_);refine zN ?_)
 refine zC (fun h => ?_) (fun h => ?_)
 ·refine zS ?_
  have hlt : n < s.wr.length := by simpa using h
  have e1 : s.wr[n]? = some (s.wr.getD n []) := o9 [] hlt
  have b1 := h6 _ (List.mem_of_getElem? e1)
  refine zB ?_
  by_cases hne : s.wr.getD n [] = []
  ·rw [hne] at e1
   (refine zW ?_;refine fd 2 ?_;refine sA ?_;refine ALK.a (uu cB rfl rfl (fun _ => rfl)) rfl ?_;refine fd 2 ?_;(iterate 4 refine sA ?_);refine ALK.n (qA rfl (eB rfl) (eB rfl)) rfl ?_;refine ALK.n (od rfl rfl rfl rfl rfl rfl (Pc rfl (eB rfl) Cs.a rfl rfl Parts.nil)) rfl ?_;refine ALK.e (oq rfl rfl rfl rfl (eB rfl) (eB rfl) rfl rfl rfl (by rw [List.length_take];omega)) rfl rfl ?_;refine fd 2 ?_;refine sA ?_;refine zD ?_)
   (refine zR ?_;(iterate 3 refine sA ?_);refine zN ?_)
   show ∃ _,_ ∧ _ ∧ _
   exact ⟨n + 1,by omega,by omega,Shift.sub ([(0,0),(1,1),(2,2)] ++ rnN 3 3 ++ rnN 19 52 ++ rnN 35 35) rfl SubE.a (SubH.cons rfl rfl (ObLe.blk SLes.a) (SubH.cons rfl rfl (ObLe.row rfl) (SubH.cons rfl rfl (ObLe.blk (SLes.cons SLe.a (SLes.cons SLe.a (SLes.cons (SLe.row rfl (by rw [List.length_take];omega)) SLes.a)))) (SubH.cons rfl rfl (ObLe.nest rfl) (SubH.cons rfl rfl (ObLe.nest (by rw [yE hlt,hne])) (SubH.cons rfl rfl (ObLe.nest rfl) SubH.nil))))))⟩
  ·(refine zW ?_;refine fd 2 ?_;refine sA ?_;refine ALK.n (od rfl rfl rfl rfl rfl rfl Parts.nil) rfl ?_;refine fd 2 ?_;(iterate 4 refine sA ?_);refine ALK.a (uC (b := 1) (enc := cB) (s.wr.getD n []) rfl rfl rfl rfl rfl (fun _ => rfl) (eB rfl) (eB rfl) rfl hne (by omega) rfl) rfl ?_;refine ALK.n (od rfl rfl rfl rfl rfl rfl (Pc rfl (eB rfl) Cs.a rfl rfl Parts.nil)) rfl ?_;refine ALK.e (oq rfl rfl rfl rfl (eB rfl) (eB rfl) rfl rfl rfl (by rw [List.length_take];omega)) rfl rfl ?_;refine fd 2 ?_;refine sA ?_;refine zD ?_)
   (refine zR ?_;(iterate 3 refine sA ?_);refine zN ?_)
   show ∃ _,_ ∧ _ ∧ _
   exact ⟨n + 1,by omega,by omega,Shift.sub ([(0,0),(1,1),(2,2)] ++ rnN 3 3 ++ rnN 19 52 ++ rnN 35 35) rfl SubE.a (SubH.cons rfl rfl (ObLe.blk SLes.a) (SubH.cons rfl rfl (ObLe.row rfl) (SubH.cons rfl rfl (ObLe.blk (SLes.cons SLe.a (SLes.cons SLe.a (SLes.cons (SLe.row rfl (by rw [List.length_take];omega)) SLes.a)))) (SubH.cons rfl rfl (ObLe.nest rfl) (SubH.cons rfl rfl (ObLe.nest (yE hlt).symm) (SubH.cons rfl rfl (ObLe.nest rfl) SubH.nil))))))⟩
 refine zE ?_
 have hn2 : n = s.wr.length := by simp at h;omega
 subst hn2
 rw [List.take_length]
 clear h hn
 (refine zR ?_;refine sA ?_;refine zN ?_)
 refine zB ?_
 refine WP.loop (fun n : Nat => ⟨[(6,.im (IV.int n)),(1,.im (IV.ptr (cSt s))),(2,.off 0 0),(3,.off 2 0)],[(0,.blk 38 [.im (IV.val (.slice none 0 0)),.im (IV.val (.slice none 0 0)),.im (IV.val (.slice none 0 0)),.im (IV.val (.slice none 0 0))]),(1,rowI s.store),(2,.blk 38 [.row 1 s.store.length,.row 3 s.rd.length,.row 19 s.wr.length,.row 35 n]),(3,nestB s.rd),(19,nestB s.wr),(35,nestI (s.vals.take n))],51⟩) (fun n => n ≤ s.vals.length) (fun n => s.vals.length - n) 0 (Nat.zero_le _)
  (Shift.sub ([(0,0),(1,1),(2,2)] ++ rnN 3 3 ++ rnN 19 19 ++ rnN 35 35) rfl SubE.a (SubH.cons rfl rfl (ObLe.blk SLes.a) (SubH.cons rfl rfl (ObLe.row rfl) (SubH.cons rfl rfl (ObLe.blk SLes.a) (SubH.cons rfl rfl (ObLe.nest rfl) (SubH.cons rfl rfl (ObLe.nest rfl) (SubH.cons rfl rfl (ObLe.nest rfl) SubH.nil))))))) ?_
 rintro n hn
 (refine zR ?_;refine sA ?_;refine fd 3 ?_;(iterate 3 refine sA ?_);refine zN ?_)
 refine zC (fun h => ?_) (fun h => ?_)
 ·refine zS ?_
  have hlt : n < s.vals.length := by simpa using h
  have e1 : s.vals[n]? = some (s.vals.getD n []) := o9 [] hlt
  have b1 := h7 _ (List.mem_of_getElem? e1)
  refine zB ?_
  by_cases hne : s.vals.getD n [] = []
  ·rw [hne] at e1
   (refine zW ?_;refine fd 3 ?_;refine sA ?_;refine ALK.a (uu cI rfl rfl (fun _ => rfl)) rfl ?_;refine fd 3 ?_;(iterate 4 refine sA ?_);refine ALK.n (qA rfl (eB rfl) (eB rfl)) rfl ?_;refine ALK.n (od rfl rfl rfl rfl rfl rfl (Pc rfl (eB rfl) Cs.a rfl rfl Parts.nil)) rfl ?_;refine ALK.e (oq rfl rfl rfl rfl (eB rfl) (eB rfl) rfl rfl rfl (by rw [List.length_take];omega)) rfl rfl ?_;refine fd 3 ?_;refine sA ?_;refine zD ?_)
   (refine zR ?_;(iterate 3 refine sA ?_);refine zN ?_)
   show ∃ _,_ ∧ _ ∧ _
   exact ⟨n + 1,by omega,by omega,Shift.sub ([(0,0),(1,1),(2,2)] ++ rnN 3 3 ++ rnN 19 19 ++ rnN 35 52) rfl SubE.a (SubH.cons rfl rfl (ObLe.blk SLes.a) (SubH.cons rfl rfl (ObLe.row rfl) (SubH.cons rfl rfl (ObLe.blk (SLes.cons SLe.a (SLes.cons SLe.a (SLes.cons SLe.a (SLes.cons (SLe.row rfl (by rw [List.length_take];omega)) SLes.nil))))) (SubH.cons rfl rfl (ObLe.nest rfl) (SubH.cons rfl rfl (ObLe.nest rfl) (SubH.cons rfl rfl (ObLe.nest (by rw [yE hlt,hne])) SubH.nil))))))⟩
  ·(refine zW ?_;refine fd 3 ?_;refine sA ?_;refine ALK.n (od rfl rfl rfl rfl rfl rfl Parts.nil) rfl ?_;refine fd 3 ?_;(iterate 4 refine sA ?_);refine ALK.a (uC (b := 8) (enc := cI) (s.vals.getD n []) rfl rfl rfl rfl rfl (fun _ => rfl) (eB rfl) (eB rfl) rfl hne (by omega) rfl) rfl ?_;refine ALK.n (od rfl rfl rfl rfl rfl rfl (Pc rfl (eB rfl) Cs.a rfl rfl Parts.nil)) rfl ?_;refine ALK.e (oq rfl rfl rfl rfl (eB rfl) (eB rfl) rfl rfl rfl (by rw [List.length_take];omega)) rfl rfl ?_;refine fd 3 ?_;refine sA ?_;refine zD ?_)
   (refine zR ?_;(iterate 3 refine sA ?_);refine zN ?_)
   show ∃ _,_ ∧ _ ∧ _
   exact ⟨n + 1,by omega,by omega,Shift.sub ([(0,0),(1,1),(2,2)] ++ rnN 3 3 ++ rnN 19 19 ++ rnN 35 52) rfl SubE.a (SubH.cons rfl rfl (ObLe.blk SLes.a) (SubH.cons rfl rfl (ObLe.row rfl) (SubH.cons rfl rfl (ObLe.blk (SLes.cons SLe.a (SLes.cons SLe.a (SLes.cons SLe.a (SLes.cons (SLe.row rfl (by rw [List.length_take];omega)) SLes.nil))))) (SubH.cons rfl rfl (ObLe.nest rfl) (SubH.cons rfl rfl (ObLe.nest rfl) (SubH.cons rfl rfl (ObLe.nest (yE hlt).symm) SubH.nil))))))⟩
 refine zE ?_
 have hn2 : n = s.vals.length := by simp at h;omega
 subst hn2
 rw [List.take_length]
 (refine zR ?_;(iterate 2 refine sA ?_);refine zN ?_)
 refine WP.shift (Shift.sub (σ' := [(2,.off 49 0)]) (H' := (49,.blk 38 [.row 0 s.store.length,.row 1 s.rd.length,.row 17 s.wr.length,.row 33 s.vals.length]) :: ownH s 0 1 17 33) (fr' := 50) ([(0,1),(49,0)] ++ rnN 1 3 ++ rnN 17 19 ++ rnN 33 35) rfl SubE.a (SubH.cons rfl rfl (ObLe.blk SLes.a) (SubH.cons rfl rfl (ObLe.row rfl) (SubH.cons rfl rfl (ObLe.nest rfl) (SubH.cons rfl rfl (ObLe.nest rfl) (SubH.cons rfl rfl (ObLe.nest rfl) SubH.nil)))))) ?_
 refine WP.ret ?_
 exact RetOkE.sv1 Tryz.results141 (ResSv.cell rfl rfl rfl rfl) HSb.a Kept.a
theorem BeginOf_fn (p : Plan) (st : List Int) (h0 : beginE p st = 0) : Fn CC 17 [planV p,intsV st] (stV (beginS p st)) := by
 have v := Valid.begin h0
 have hst : st.length = 8 := v.store
 obtain ⟨hm,hm1,hm4,hn8,hall⟩ := oO v.plan
 have hnT : nT p = p.txns.length := rfl
 refine Fn.of_wp _ Tryz.func17 rfl (by kernel_rfl) Tryz.ntmps17 rfl ?_
 intro F hD hG
 (refine zR ?_;(iterate 2 refine sA ?_);refine zN ?_)
 (refine zR ?_;refine ALK.a (uu cI rfl rfl (fun _ => rfl)) rfl ?_;refine sA ?_;refine ALK.e (o8 (b := 8) st rfl rfl rfl rfl rfl (eB rfl) (eB rfl) rfl rfl (by simp only [List.length_nil];omega) rfl) rfl rfl ?_;(iterate 3 refine sA ?_);refine zN ?_)
 refine WP.shift (Shift.nest0In 3 1 101 4 1 cB (fun _ => rfl) rfl rfl rfl) ?_
 refine WP.shift (Shift.nest0In 3 2 101 4 1 cB (fun _ => rfl) rfl rfl rfl) ?_
 refine WP.shift (Shift.nest0In 3 3 34 3 1 cI (fun _ => rfl) rfl rfl rfl) ?_
 (refine zR ?_;refine sA ?_;refine zN ?_)
 refine zB ?_
 refine WP.loop (fun n : Nat => ⟨[(6,.im (IV.int n)),(2,.im (IV.ptr (cP p))),(4,.off 0 0),(5,.off 2 0)],[(0,.blk 38 [.im (IV.val (.slice none 0 0)),.im (IV.val (.slice none 0 0)),.im (IV.val (.slice none 0 0)),.im (IV.val (.slice none 0 0))]),(1,rowI st),(2,.blk 38 [.row 1 st.length,.row 3 n,.row 19 n,.row 35 n]),(3,nestB (List.replicate n (List.replicate (mS p) false))),(19,nestB (List.replicate n (List.replicate (mS p) false))),(35,nestI ((p.txns.take n).map fun t => List.replicate t.reads.length 0))],51⟩) (fun n => n ≤ nT p) (fun n => nT p - n) 0 (Nat.zero_le _)
  (Shift.sub ([(0,0),(1,2),(2,3)] ++ rnN 3 4 ++ rnN 19 20 ++ rnN 35 36) rfl SubE.a (SubH.cons rfl rfl (ObLe.blk SLes.a) (SubH.cons rfl rfl (ObLe.row (by simp)) (SubH.cons rfl rfl (ObLe.blk (SLes.cons (SLe.row rfl (by simp)) SLes.a)) (SubH.cons rfl rfl (ObLe.nest rfl) (SubH.cons rfl rfl (ObLe.nest rfl) (SubH.cons rfl rfl (ObLe.nest rfl) SubH.nil))))))) ?_
 rintro n hn
 (refine zR ?_;refine sA ?_;refine fd 1 ?_;(iterate 3 refine sA ?_);refine zN ?_)
 refine zC (fun h => ?_) (fun h => ?_)
 ·refine zS ?_
  have hlt : n < nT p := by simp at h;omega
  obtain ⟨ht,hok⟩ := hall n hlt
  obtain ⟨hz1,hz2,hz3,hz4⟩ := (y6 hok).1
  have hvl : ((p.txns.take n).map fun t => List.replicate t.reads.length (0 : Int)).length = n := by rw [List.length_map,List.length_take];omega
  refine zB ?_
  (refine zW ?_;refine fd 1 ?_;refine sA ?_;refine fd 0 ?_;refine sA ?_;refine ALK.a (yS (n := mS p) (b := 1) (enc := cB) false rfl rfl (fun _ => rfl) rfl rfl rfl (Ev.of (eB rfl) (ImOf.im (ILe.int hm))) (Ev.of (eB rfl) (ImOf.im (ILe.int hm))) rfl (by omega) (by omega)) rfl ?_;refine ALK.n (od rfl rfl rfl rfl rfl rfl (Pc rfl (eB rfl) Cs.a rfl rfl Parts.nil)) rfl ?_;refine ALK.e (oq rfl rfl rfl rfl (eB rfl) (eB rfl) rfl rfl rfl (by rw [List.length_replicate];omega)) rfl rfl ?_;refine fd 1 ?_;refine sA ?_;refine zD ?_)
  (refine zW ?_;refine fd 2 ?_;refine sA ?_;refine fd 0 ?_;refine sA ?_;refine ALK.a (yS (n := mS p) (b := 1) (enc := cB) false rfl rfl (fun _ => rfl) rfl rfl rfl (Ev.of (eB rfl) (ImOf.im (ILe.int hm))) (Ev.of (eB rfl) (ImOf.im (ILe.int hm))) rfl (by omega) (by omega)) rfl ?_;refine ALK.n (od rfl rfl rfl rfl rfl rfl (Pc rfl (eB rfl) Cs.a rfl rfl Parts.nil)) rfl ?_;refine ALK.e (oq rfl rfl rfl rfl (eB rfl) (eB rfl) rfl rfl rfl (by rw [List.length_replicate];omega)) rfl rfl ?_;refine fd 2 ?_;refine sA ?_;refine zD ?_)
  (refine zW ?_;refine fd 3 ?_;refine sA ?_;refine fd 1 ?_;(iterate 3 refine sA ?_);refine fd 0 ?_;(iterate 2 refine sA ?_);refine ALK.a (yS (n := (txN p n).reads.length) (b := 8) (enc := cI) 0 rfl rfl (fun _ => rfl) rfl rfl rfl (eB rfl) (eB rfl) rfl (by omega) (by omega)) rfl ?_;refine ALK.n (od rfl rfl rfl rfl rfl rfl (Pc rfl (eB rfl) Cs.a rfl rfl Parts.nil)) rfl ?_;refine ALK.e (oq rfl rfl rfl rfl (eB rfl) (eB rfl) rfl rfl rfl (by rw [hvl];omega)) rfl rfl ?_;refine fd 3 ?_;refine sA ?_;refine zD ?_)
  (refine zR ?_;(iterate 3 refine sA ?_);refine zN ?_)
  show ∃ _,_ ∧ _ ∧ _
  exact ⟨n + 1,by omega,by omega,Shift.sub ([(0,0),(1,1),(2,2)] ++ rnN 3 52 ++ rnN 19 69 ++ rnN 35 86) rfl SubE.a (SubH.cons rfl rfl (ObLe.blk SLes.a) (SubH.cons rfl rfl (ObLe.row rfl) (SubH.cons rfl rfl (ObLe.blk (SLes.cons SLe.a (SLes.cons (SLe.row rfl (by rw [List.length_replicate])) (SLes.cons (SLe.row rfl (by rw [List.length_replicate])) (SLes.cons (SLe.row rfl (by rw [hvl])) SLes.nil))))) (SubH.cons rfl rfl (ObLe.nest (List.replicate_succ' ..).symm) (SubH.cons rfl rfl (ObLe.nest (List.replicate_succ' ..).symm) (SubH.cons rfl rfl (ObLe.nest (begin_vals hlt).symm) SubH.nil))))))⟩
 ·refine zE ?_
  have hn2 : n = nT p := by simp at h;omega
  subst hn2
  refine WP.shift (Shift.frzIn 2 0 rfl rfl rfl rfl) ?_
  refine WP.shift (Shift.frzNestIn 2 1 rfl rfl rfl rfl) ?_
  refine WP.shift (Shift.frzNestIn 2 2 rfl rfl rfl rfl) ?_
  refine WP.shift (Shift.frzNestIn 2 3 rfl rfl rfl rfl) ?_
  rw [show p.txns.take (nT p) = p.txns by rw [hnT,List.take_length]]
  (refine zR ?_;(iterate 2 refine sA ?_);refine zN ?_)
  exact zT Tryz.results17
theorem R_done_fn (p : Plan) (s : StT) (kind : Int) (n k : Nat) (v : Valid p s) (hB : TxsB p.txns) (hs : Step p s kind n k) : Fn CC 103 [planV p,stV s,IV.agg [IV.int kind,IV.int (n : Int),IV.int (k : Int)]] (stV (turnS p s kind n k)) := by
 obtain ⟨hm,hm1,hm4,hn8,hall⟩ := oO v.plan
 obtain ⟨ht,hok⟩ := hall n hs.hn
 have hbt : TxnB (txN p n) := hB _ (List.mem_of_getElem? ht)
 obtain ⟨hk1,hk2⟩ := yj hok
 obtain ⟨hz1,hz2,hz3,hz4⟩ := (y6 hok).1
 have hkm := hs.hk
 have hnn := hs.hn
 have hnT : nT p = p.txns.length := rfl
 have l1 := v.rdl
 have l2 := v.wrl
 have l3 := v.vall
 have l4 := v.rdr n hnn
 have l5 := v.wrr n hnn
 have l6 := v.valr n hnn
 have l7 := v.store
 have e1 : s.rd[n]? = some (s.rd.getD n []) := o9 [] (by omega)
 have e2 : s.wr[n]? = some (s.wr.getD n []) := o9 [] (by omega)
 have e3 : s.vals[n]? = some (s.vals.getD n []) := o9 [] (by omega)
 have b5 : ∀ l ∈ s.rd,l.length ≤ 1000 := jZ fun i hi => by rw [v.rdr i (by rw [v.rdl] at hi;exact hi)];omega
 have b6 : ∀ l ∈ s.wr,l.length ≤ 1000 := jZ fun i hi => by rw [v.wrr i (by rw [v.wrl] at hi;exact hi)];omega
 have b7 : ∀ l ∈ s.vals,l.length ≤ 1000 := len_le fun i hi => by
  have hi' : i < nT p := by rw [v.vall] at hi;exact hi
  rw [v.valr i hi']
  have := Valid.reads4 v.plan hi'
  omega
 have hown := OwnState_new s (by omega) (by omega) (by omega) (by omega) b5 b6 b7
 refine Fn.of_wp _ Tryz.func103 rfl (by kernel_rfl) Tryz.ntmps103 rfl ?_
 intro F hD hG
 (refine zR ?_;(iterate 4 refine sA ?_);refine zN ?_)
 (refine zR ?_;refine sA ?_;refine ALK.e (o5 [] hown EvsS.a rfl rfl rfl HIn.a) rfl rfl ?_;(iterate 2 refine sA ?_);refine zN ?_)
 refine WP.shift (Shift.sub (σ' := [(6,.off 0 0),(7,.off 1 0),(3,.im (IV.ptr (cP p))),(4,.im (IV.ptr (cSt s))),(5,.im (IV.ptr [IV.int kind,IV.int (n : Int),IV.int (k : Int)]))]) (H' := (0,.blk 38 [.im (IV.val (.slice none 0 0)),.im (IV.val (.slice none 0 0)),.im (IV.val (.slice none 0 0)),.im (IV.val (.slice none 0 0))]) :: turnH 1 2 3 19 35 s) (fr' := 51) ([(0,0),(1,50),(2,1)] ++ rnN 3 2 ++ rnN 19 18 ++ rnN 35 34) rfl SubE.a (SubH.cons rfl rfl (ObLe.blk SLes.a) (SubH.cons rfl rfl (ObLe.blk SLes.a) (SubH.cons rfl rfl (ObLe.row rfl) (SubH.cons rfl rfl (ObLe.nest rfl) (SubH.cons rfl rfl (ObLe.nest rfl) (SubH.cons rfl rfl (ObLe.nest rfl) SubH.nil))))))) ?_
 (refine zR ?_;refine fd 1 ?_;refine sA ?_;refine fd 1 ?_;(iterate 5 refine sA ?_);refine zN ?_)
 refine WP.shift (Shift.frzBlk 8 rfl rfl rfl) ?_
 (refine zR ?_;refine fd 0 ?_;(iterate 2 refine sA ?_);refine zN ?_)
 refine zC (fun h => ?_) (fun h => ?_)
 ·have hkd : kind = 1 := by simpa using h
  subst hkd
  have ht1 := turn1 p s n k
  rw [ht1]
  (refine zW ?_;refine fd 1 ?_;refine sA ?_;refine fd 1 ?_;(iterate 2 refine sA ?_);refine ALK.r (oV rfl rfl (eB rfl) rfl e1) rfl ?_;refine fd 2 ?_;(iterate 2 refine sA ?_);refine ALK.e (y5 (z := true) rfl rfl (eB rfl) (eB rfl) (yG rfl) rfl e1 rfl (by omega)) rfl rfl ?_;refine zD ?_)
  (refine zR ?_;refine sA ?_;refine zN ?_)
  refine zB ?_
  refine WP.loop (fun i : Nat => ⟨[(9,.im (IV.int i)),(6,.off 0 0),(7,.off 1 0),(3,.im (IV.ptr (cP p))),(4,.im (IV.ptr (cSt s))),(5,.im (IV.ptr [IV.int 1,IV.int (n : Int),IV.int (k : Int)])),(8,.im (IV.ptr (cT (txN p n))))],[(0,.blk 38 [.im (IV.val (.slice none 0 0)),.im (IV.val (.slice none 0 0)),.im (IV.val (.slice none 0 0)),.im (IV.val (.slice none 0 0))]),(1,stBlk 2 3 19 35 s),(2,rowI s.store),(3,nestB (set2 s.rd n k true)),(19,nestB s.wr),(35,nestI (s.vals.set n (rdTo (mS p) k s.store (txN p n).reads (s.vals.getD n []) i)))],51⟩) (fun i => i ≤ (txN p n).reads.length) (fun i => (txN p n).reads.length - i) 0 (Nat.zero_le _)
   (Shift.sub ([(0,0),(1,1),(2,2)] ++ rnN 3 3 ++ rnN 19 19 ++ rnN 35 35) rfl SubE.a (SubH.cons rfl rfl (ObLe.blk SLes.a) (SubH.cons rfl rfl (ObLe.blk SLes.a) (SubH.cons rfl rfl (ObLe.row rfl) (SubH.cons rfl rfl (ObLe.nest rfl) (SubH.cons rfl rfl (ObLe.nest rfl) (SubH.cons rfl rfl (ObLe.nest (by rw [rdTo_zero,set_same e3])) SubH.nil))))))) ?_
  rintro i hi
  (refine zR ?_;refine sA ?_;refine fd 0 ?_;(iterate 3 refine sA ?_);refine zN ?_)
  refine zC (fun h => ?_) (fun h => ?_)
  ·refine zS ?_
   have hlt : i < (txN p n).reads.length := by simpa using h
   obtain ⟨key,hkey⟩ := oc hlt
   obtain ⟨k0,k8⟩ := hk1 key (List.mem_of_getElem? hkey)
   have hx := rdTo_next (m := mS p) (k := k) (st := s.store) (old := s.vals.getD n []) l6 hkey
   have hlen := rdTo_len (m := mS p) (k := k) (i := i) (st := s.store) l6
   have hh := vb (m := mS p) (k := k) k0
   have e4 : (s.vals.set n (rdTo (mS p) k s.store (txN p n).reads (s.vals.getD n []) i))[n]? = some (rdTo (mS p) k s.store (txN p n).reads (s.vals.getD n []) i) := set_at (by omega)
   have e5 := rdF_at (st := s.store) k0 (by omega)
   refine zB ?_
   (refine zW ?_;refine fd 0 ?_;(iterate 4 refine sA ?_);refine fd 0 ?_;refine sA ?_;refine ALK.n (uj (eB rfl) (eB rfl) (by omega) (by omega)) rfl ?_;refine fd 2 ?_;(iterate 2 refine sA ?_);refine zD ?_)
   refine zC (fun h => ?_) (fun h => ?_)
   ·rw [hm,← hh] at h
    rw [if_pos h] at hx
    (refine zW ?_;refine fd 3 ?_;refine sA ?_;refine fd 1 ?_;(iterate 2 refine sA ?_);refine ALK.r (oV rfl rfl (eB rfl) rfl e4) rfl ?_;refine sA ?_;refine fd 0 ?_;refine sA ?_;refine fd 0 ?_;(iterate 7 refine sA ?_);refine ALK.e (y5 (z := rdF s.store key) rfl rfl (eB rfl) (eB rfl) (yG rfl) rfl e4 rfl (by omega)) rfl rfl ?_;refine zD ?_)
    (refine zR ?_;(iterate 3 refine sA ?_);refine zN ?_)
    show ∃ _,_ ∧ _ ∧ _
    exact ⟨i + 1,by omega,by omega,Shift.sub ([(0,0),(1,1),(2,2)] ++ rnN 3 3 ++ rnN 19 19 ++ rnN 35 35) rfl SubE.a (SubH.cons rfl rfl (ObLe.blk SLes.a) (SubH.cons rfl rfl (ObLe.blk SLes.a) (SubH.cons rfl rfl (ObLe.row rfl) (SubH.cons rfl rfl (ObLe.nest rfl) (SubH.cons rfl rfl (ObLe.nest rfl) (SubH.cons rfl rfl (ObLe.nest (by rw [hx];exact List.set_set ..)) SubH.nil))))))⟩
   ·rw [hm,← hh] at h
    rw [if_neg (by rw [h];simp)] at hx
    refine zS ?_
    (refine zR ?_;(iterate 3 refine sA ?_);refine zN ?_)
    show ∃ _,_ ∧ _ ∧ _
    exact ⟨i + 1,by omega,by omega,Shift.sub ([(0,0),(1,1),(2,2)] ++ rnN 3 3 ++ rnN 19 19 ++ rnN 35 35) rfl SubE.a (SubH.cons rfl rfl (ObLe.blk SLes.a) (SubH.cons rfl rfl (ObLe.blk SLes.a) (SubH.cons rfl rfl (ObLe.row rfl) (SubH.cons rfl rfl (ObLe.nest rfl) (SubH.cons rfl rfl (ObLe.nest rfl) (SubH.cons rfl rfl (ObLe.nest (by rw [hx])) SubH.nil))))))⟩
  ·refine zE ?_
   have hi2 : i = (txN p n).reads.length := by simp at h;omega
   subst hi2
   rw [rdTo_all l6]
   refine WP.shift (Shift.frzIn 1 0 rfl rfl rfl rfl) ?_
   refine WP.shift (Shift.frzNestIn 1 1 rfl rfl rfl rfl) ?_
   refine WP.shift (Shift.frzNestIn 1 2 rfl rfl rfl rfl) ?_
   refine WP.shift (Shift.frzNestIn 1 3 rfl rfl rfl rfl) ?_
   (refine zR ?_;(iterate 2 refine sA ?_);refine zN ?_)
   exact zT Tryz.results103
 refine zS ?_
 have hkd : kind = 2 := by rcases hs.kd with h1 | h1;(subst h1;simp at h);exact h1
 subst hkd
 have ht2 := turn2 p s n k
 rw [ht2]
 (refine zW ?_;refine fd 2 ?_;refine sA ?_;refine fd 1 ?_;(iterate 2 refine sA ?_);refine ALK.r (oV rfl rfl (eB rfl) rfl e2) rfl ?_;refine fd 2 ?_;(iterate 2 refine sA ?_);refine ALK.e (y5 (z := true) rfl rfl (eB rfl) (eB rfl) (yG rfl) rfl e2 rfl (by omega)) rfl rfl ?_;refine zD ?_)
 (refine zW ?_;refine sA ?_;refine fd 3 ?_;refine sA ?_;refine fd 1 ?_;(iterate 3 refine sA ?_);refine ALK.n (o3 (jo (txN p n) (s.vals.getD n []) hbt hok l6) (Evs.cons Ev.a (Evs.cons Ev.a Evs.nil))) rfl ?_;(iterate 6 refine sA ?_);refine zD ?_)
 have hle := uL (t := txN p n) (xs := s.vals.getD n [])
 obtain ⟨l,hl⟩ : ∃ l,l = runSets (txN p n) (s.vals.getD n []) := ⟨_,rfl⟩
 rw [← hl] at hle ⊢
 (refine zR ?_;refine sA ?_;refine zN ?_)
 refine zB ?_
 refine WP.loop (fun j : Nat => ⟨[(12,.im (IV.int j)),(11,.im (intsV l)),(6,.off 0 0),(7,.off 1 0),(3,.im (IV.ptr (cP p))),(4,.im (IV.ptr (cSt s))),(5,.im (IV.ptr [IV.int 2,IV.int (n : Int),IV.int (k : Int)])),(8,.im (IV.ptr (cT (txN p n))))],[(0,.blk 38 [.im (IV.val (.slice none 0 0)),.im (IV.val (.slice none 0 0)),.im (IV.val (.slice none 0 0)),.im (IV.val (.slice none 0 0))]),(1,stBlk 2 3 19 35 s),(2,rowI (wrTo (mS p) k s.store (txN p n) (s.vals.getD n []) j)),(3,nestB s.rd),(19,nestB (set2 s.wr n k true)),(35,nestI s.vals)],51⟩) (fun j => j ≤ l.length) (fun j => l.length - j) 0 (Nat.zero_le _)
  (Shift.sub ([(0,0),(1,1),(2,2)] ++ rnN 3 3 ++ rnN 19 19 ++ rnN 35 35) rfl SubE.a (SubH.cons rfl rfl (ObLe.blk SLes.a) (SubH.cons rfl rfl (ObLe.blk SLes.a) (SubH.cons rfl rfl (ObLe.row wrTo_zero.symm) (SubH.cons rfl rfl (ObLe.nest rfl) (SubH.cons rfl rfl (ObLe.nest rfl) (SubH.cons rfl rfl (ObLe.nest rfl) SubH.nil))))))) ?_
 rintro j hj
 (refine zR ?_;(iterate 4 refine sA ?_);refine zN ?_)
 refine zC (fun h => ?_) (fun h => ?_)
 ·refine zS ?_
  have hjl : j < l.length := by simpa using h
  obtain ⟨z,hz⟩ := oc hjl
  obtain ⟨q,hq⟩ := oc (xs := (txN p n).sets) (k := j) (by omega)
  obtain ⟨k0,k8⟩ := hk2 q.key (List.mem_map.2 ⟨q,List.mem_of_getElem? hq,rfl⟩)
  have hzz : ((txN p n).sets.zip (runSets (txN p n) (s.vals.getD n [])))[j]? = some (q,z) := by rw [← hl,List.getElem?_zip_eq_some];exact ⟨hq,hz⟩
  have hx := wrTo_next (m := mS p) (k := k) (st := s.store) hzz
  have hlen := wrTo_len (m := mS p) (k := k) (j := j) (st := s.store) (xs := s.vals.getD n []) (t := txN p n)
  have hh := vb (m := mS p) (k := k) k0
  have hkl : q.key.toNat < (wrTo (mS p) k s.store (txN p n) (s.vals.getD n []) j).length := by omega
  refine zB ?_
  (refine zW ?_;refine fd 2 ?_;(iterate 3 refine sA ?_);refine fd 0 ?_;refine sA ?_;refine fd 0 ?_;refine sA ?_;refine ALK.n (uj (eB rfl) (eB rfl) (by omega) (by omega)) rfl ?_;refine fd 2 ?_;(iterate 2 refine sA ?_);refine zD ?_)
  refine zC (fun h => ?_) (fun h => ?_)
  ·rw [hm,← hh] at h
   simp only [h,if_true] at hx
   (refine zW ?_;refine fd 0 ?_;refine sA ?_;refine fd 2 ?_;(iterate 3 refine sA ?_);refine fd 0 ?_;(iterate 7 refine sA ?_);refine zD ?_)
   (refine zR ?_;(iterate 3 refine sA ?_);refine zN ?_)
   show ∃ _,_ ∧ _ ∧ _
   exact ⟨j + 1,by omega,by omega,Shift.sub ([(0,0),(1,1),(2,2)] ++ rnN 3 3 ++ rnN 19 19 ++ rnN 35 35) rfl SubE.a (SubH.cons rfl rfl (ObLe.blk SLes.a) (SubH.cons rfl rfl (ObLe.blk SLes.a) (SubH.cons rfl rfl (ObLe.row hx.symm) (SubH.cons rfl rfl (ObLe.nest rfl) (SubH.cons rfl rfl (ObLe.nest rfl) (SubH.cons rfl rfl (ObLe.nest rfl) SubH.nil))))))⟩
  ·rw [hm,← hh] at h
   simp only [h,Bool.false_eq_true,if_false] at hx
   refine zS ?_
   (refine zR ?_;(iterate 3 refine sA ?_);refine zN ?_)
   show ∃ _,_ ∧ _ ∧ _
   exact ⟨j + 1,by omega,by omega,Shift.sub ([(0,0),(1,1),(2,2)] ++ rnN 3 3 ++ rnN 19 19 ++ rnN 35 35) rfl SubE.a (SubH.cons rfl rfl (ObLe.blk SLes.a) (SubH.cons rfl rfl (ObLe.blk SLes.a) (SubH.cons rfl rfl (ObLe.row hx.symm) (SubH.cons rfl rfl (ObLe.nest rfl) (SubH.cons rfl rfl (ObLe.nest rfl) (SubH.cons rfl rfl (ObLe.nest rfl) SubH.nil))))))⟩
 ·refine zE ?_
  have hjl : ((txN p n).sets.zip (runSets (txN p n) (s.vals.getD n []))).length ≤ j := by simp at h;rw [List.length_zip,← hl];omega
  rw [wrTo_all hjl]
  refine WP.shift (Shift.frzIn 1 0 rfl rfl rfl rfl) ?_
  refine WP.shift (Shift.frzNestIn 1 1 rfl rfl rfl rfl) ?_
  refine WP.shift (Shift.frzNestIn 1 2 rfl rfl rfl rfl) ?_
  refine WP.shift (Shift.frzNestIn 1 3 rfl rfl rfl rfl) ?_
  (refine zR ?_;(iterate 2 refine sA ?_);refine zN ?_)
  exact zT Tryz.results103
end Go.Proofs.YtjgmbgfcffnanaaGreatDoor
