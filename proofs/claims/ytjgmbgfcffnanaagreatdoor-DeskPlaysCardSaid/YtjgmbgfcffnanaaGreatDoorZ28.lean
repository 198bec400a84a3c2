/- Package wire: Write. -/
import Derived.Test.YtjgmbgfcffnanaaGreatDoorZ19
set_option maxRecDepth 100000
set_option maxHeartbeats 4000000
namespace Go.Proofs.YtjgmbgfcffnanaaGreatDoor
open Go.RowKit
def cOp (o : YtjgmbgfcffnanaaGreatDoor.Operand) : List IV := [IV.int o.kind,IV.int o.n]
abbrev penH (i r : Nat) (bs : List UInt8) : List Ent := [(i,.blk 145 [.row r bs.length]),(r,.row 5 1 cU8 bs)]
theorem yr (bs : List UInt8) (xs : List Int) (hl : bs.length + xs.length ≤ 100000) :
 FnE CC 73 2 [.off 0 0,.im (intsV xs)] (penH 0 1 bs) (.im (IV.tup [])) (penH 0 2 (bs ++ xs.map byteOf)) 3 [0] := by
 refine FnE.of_wp _ [(0,0)] Tryz.func73 rfl (by kernel_rfl) Tryz.ntmps73 rfl rfl rfl rfl rfl rfl rfl rfl rfl ?_
 intro F vs hD hvs
 obtain ⟨v0,v1,rfl⟩ := len2 hvs
 show WP _ _ _ _ _ ⟨[(0,.is v0 (.off 0 0)),(1,.im (intsV xs))],penH 0 1 bs,2⟩
 (refine zR ?_;(iterate 3 refine sI ?_);refine zN ?_)
 refine zB ?_
 refine WP.loop (fun k : Nat => ⟨[(8,.im (IV.int k)),(6,.im (intsV xs)),(7,.im (IV.int xs.length)),(0,.is v0 (.off 0 0))],penH 0 1 (bs ++ (xs.take k).map byteOf),2⟩) (fun k => k ≤ xs.length) (fun k => xs.length - k) 0 (Nat.zero_le _) (Shift.sub [(0,0),(1,1)] rfl SubE.a (SubH.cons rfl rfl (ObLe.blk (SLes.cons (SLe.row rfl (by simp)) SLes.nil)) (SubH.cons rfl rfl (ObLe.row (by simp)) SubH.nil))) ?_
 rintro k hk
 (refine zR ?_;refine sI ?_;refine zN ?_)
 refine zC (fun h => ?_) (fun h => ?_)
 ·refine zS ?_
  have hlt : k < xs.length := by simpa using h
  obtain ⟨q,hq⟩ := oc hlt
  refine zB ?_
  (refine zR ?_;(iterate 3 refine sI ?_);refine zN ?_)
  (refine zR ?_;(iterate 3 refine sI ?_);refine fI 0 ?_;(iterate 2 refine sI ?_);(first | refine ALK.n (y1 (by kernel_rfl) (by kernel_rfl) (by kernel_rfl) (eB rfl)) rfl ?_ | refine ALK.n (oZ (by kernel_rfl) (by kernel_rfl) (by kernel_rfl) (eB rfl)) rfl ?_);refine ALK.n (o6 rfl rfl rfl rfl rfl rfl (Pc rfl (eB rfl) Cs.a rfl rfl Parts.nil) rfl) rfl ?_;refine ALK.e (o8 (b := 1) [byteOf q] rfl rfl rfl rfl rfl (eB rfl) (eB rfl) rfl rfl (by simp;omega) rfl) rfl rfl ?_;refine sI ?_;refine fI 0 ?_;refine sI ?_;refine zN ?_)
  (refine zR ?_;(iterate 2 refine sI ?_);refine zN ?_)
  show ∃ _,_ ∧ _ ∧ _
  have hn : bs ++ (xs.take (k + 1)).map byteOf = (bs ++ (xs.take k).map byteOf) ++ [byteOf q] := by rw [oM hq,List.map_append,List.append_assoc];rfl
  have hll : (bs ++ (xs.take k).map byteOf).length + [byteOf q].length = (bs ++ (xs.take (k + 1)).map byteOf).length := by rw [hn];simp only [List.length_append]
  exact ⟨k + 1,by omega,by omega,Shift.sub [(0,0),(1,2)] rfl SubE.a (SubH.cons rfl rfl (ObLe.blk (SLes.cons (SLe.row rfl hll) SLes.nil)) (SubH.cons rfl rfl (ObLe.row hn.symm) SubH.nil))⟩
 ·have hge : k = xs.length := by simp at h;omega
  subst hge
  rw [List.take_length]
  refine WP.shift (Shift.sub (σ' := [(0,.is v0 (.off 0 0))]) (H' := penH 0 2 (bs ++ xs.map byteOf)) (fr' := 3) [(0,0),(2,1)] rfl SubE.a (SubH.cons rfl rfl (ObLe.blk (SLes.cons (SLe.row rfl rfl) SLes.nil)) (SubH.cons rfl rfl (ObLe.row rfl) SubH.nil))) ?_
  refine WP.exit ?_
  exact RetOkE.none Tryz.results73 HSb.a Kept.a
theorem qN (bs : List UInt8) (os : List YtjgmbgfcffnanaaGreatDoor.Operand) (hl : bs.length + 9 * os.length ≤ 90000) :
 FnE CC 74 2 [.off 0 0,.im (IV.view 2 cOp os)] (penH 0 1 bs) (.im (IV.tup [])) (penH 0 2 (bs ++ os.flatMap bOp)) 3 [0] := by
 refine FnE.of_wp _ [(0,0)] Tryz.func74 rfl (by kernel_rfl) Tryz.ntmps74 rfl rfl rfl rfl rfl rfl rfl rfl rfl ?_
 intro F vs hD hvs
 obtain ⟨v0,v1,rfl⟩ := len2 hvs
 show WP _ _ _ _ _ ⟨[(0,.is v0 (.off 0 0)),(1,.im (IV.view 2 cOp os))],penH 0 1 bs,2⟩
 (refine zR ?_;(iterate 3 refine sI ?_);refine zN ?_)
 refine zB ?_
 refine WP.loop (fun k : Nat => ⟨[(9,.im (IV.int k)),(7,.im (IV.view 2 cOp os)),(8,.im (IV.int os.length)),(0,.is v0 (.off 0 0))],penH 0 1 (bs ++ (os.take k).flatMap bOp),2⟩) (fun k => k ≤ os.length) (fun k => os.length - k) 0 (Nat.zero_le _) (Shift.sub [(0,0),(1,1)] rfl SubE.a (SubH.cons rfl rfl (ObLe.blk (SLes.cons (SLe.row rfl (by simp)) SLes.nil)) (SubH.cons rfl rfl (ObLe.row (by simp)) SubH.nil))) ?_
 rintro k hk
 (refine zR ?_;refine sI ?_;refine zN ?_)
 refine zC (fun h => ?_) (fun h => ?_)
 ·refine zS ?_
  have hlt : k < os.length := by simpa using h
  obtain ⟨o,ho⟩ := oc hlt
  have hfl := yy bOp 9 (os.take k) fun o _ => Nat.le_refl _
  rw [List.length_take] at hfl
  have hlL : (bs ++ (os.take k).flatMap bOp).length + 9 ≤ 90000 := by rw [List.length_append];omega
  have hfin : bs ++ (os.take (k + 1)).flatMap bOp = (bs ++ (os.take k).flatMap bOp) ++ bOp o := by rw [oM ho,List.flatMap_append,List.append_assoc];simp
  obtain ⟨L,hL⟩ : ∃ L,L = bs ++ (os.take k).flatMap bOp := ⟨_,rfl⟩
  rw [← hL] at hlL hfin ⊢
  refine zB ?_
  (refine zR ?_;(iterate 4 refine sI ?_);refine zN ?_)
  (refine zR ?_;refine sI ?_;refine fI 0 ?_;refine sI ?_;refine ALK.n (o6 rfl rfl rfl rfl rfl rfl (Pc rfl (eB rfl) Cs.a rfl rfl Parts.nil) rfl) rfl ?_;refine ALK.e (o5 [0,1] (yr L [o.kind] (by simp;omega)) EvsS.a rfl rfl rfl HIn.a) rfl rfl ?_;refine zN ?_)
  (refine zR ?_;refine sI ?_;refine zN ?_)
  refine zB ?_
  refine WP.loop (fun j : Nat => ⟨[(6,.im (IV.int (56 - 8 * (j : Int)))),(5,.off 2 0),(9,.im (IV.int k)),(7,.im (IV.view 2 cOp os)),(8,.im (IV.int os.length)),(0,.is v0 (.off 0 0))],penH 0 1 ((L ++ [byteOf o.kind]) ++ (eightB o.n).take j) ++ [(2,.blk 81 [.im (IV.int o.kind),.im (IV.int o.n)])],3⟩) (fun j => j ≤ 8) (fun j => 8 - j) 0 (Nat.zero_le _) (Shift.sub [(0,0),(1,3),(2,2)] rfl SubE.a (SubH.cons rfl rfl (ObLe.blk (SLes.cons (SLe.row rfl (by simp)) SLes.nil)) (SubH.cons rfl rfl (ObLe.row (by simp)) (SubH.cons rfl rfl (ObLe.blk SLes.a) SubH.nil)))) ?_
  rintro j hj
  (refine zR ?_;(iterate 2 refine sI ?_);refine zN ?_)
  refine zC (fun h => ?_) (fun h => ?_)
  ·refine zS ?_
   have hj8 : j < 8 := by simp at h;omega
   refine zB ?_
   (refine zR ?_;refine sI ?_;refine fI 1 ?_;(iterate 2 refine sI ?_);refine ALK.n (qz (n := 56 - 8 * j) (eB rfl) (eB rfl) (by omega) (by omega)) rfl ?_;refine ALK.n (o6 rfl rfl rfl rfl rfl rfl (Pc rfl (eB rfl) Cs.a rfl rfl Parts.nil) rfl) rfl ?_;refine ALK.e (o5 [0,1] (yr ((L ++ [byteOf o.kind]) ++ (eightB o.n).take j) [shrI o.n (56 - 8 * j)] (by simp;omega)) EvsS.a rfl rfl rfl HIn.a) rfl rfl ?_;refine zN ?_)
   (refine zR ?_;(iterate 3 refine sI ?_);refine zN ?_)
   show ∃ _,_ ∧ _ ∧ _
   have hn : (L ++ [byteOf o.kind]) ++ (eightB o.n).take (j + 1) = ((L ++ [byteOf o.kind]) ++ (eightB o.n).take j) ++ [shrI o.n (56 - 8 * j)].map byteOf := by rw [eightB_take o.n hj8,← List.append_assoc];rfl
   exact ⟨j + 1,by omega,by omega,Shift.sub [(0,0),(1,3),(2,2)] rfl (SubE.cons rfl (SLe.im (ILe.int (by omega))) SubE.a) (SubH.cons rfl rfl (ObLe.blk (SLes.cons (SLe.row rfl (by rw [hn])) SLes.nil)) (SubH.cons rfl rfl (ObLe.row hn.symm) (SubH.cons rfl rfl (ObLe.blk SLes.a) SubH.nil)))⟩
  ·refine zE ?_
   have hj8 : j = 8 := by simp at h;omega
   subst hj8
   (refine zR ?_;(iterate 2 refine sI ?_);refine zN ?_)
   show ∃ _,_ ∧ _ ∧ _
   have hn : (L ++ [byteOf o.kind]) ++ (eightB o.n).take 8 = bs ++ (os.take (k + 1)).flatMap bOp := by rw [hfin];simp [bOp,eightB]
   exact ⟨k + 1,by omega,by omega,Shift.sub [(0,0),(1,1)] rfl SubE.a (SubH.cons rfl rfl (ObLe.blk (SLes.cons (SLe.row rfl (by rw [hn])) SLes.nil)) (SubH.cons rfl rfl (ObLe.row hn) SubH.nil))⟩
 ·have hge : k = os.length := by simp at h;omega
  subst hge
  rw [List.take_length]
  refine WP.shift (Shift.sub (σ' := [(0,.is v0 (.off 0 0))]) (H' := penH 0 2 (bs ++ os.flatMap bOp)) (fr' := 3) [(0,0),(2,1)] rfl SubE.a (SubH.cons rfl rfl (ObLe.blk (SLes.cons (SLe.row rfl rfl) SLes.nil)) (SubH.cons rfl rfl (ObLe.row rfl) SubH.nil))) ?_
  refine WP.exit ?_
  exact RetOkE.none Tryz.results74 HSb.a Kept.a
theorem bTxn_cut (t : Txn) (L : List UInt8) : (((((L ++ [byteOf t.reads.length]) ++ t.reads.map byteOf) ++ [byteOf t.guards.length]) ++ t.guards.flatMap bGuard) ++ [byteOf t.sets.length]) ++ t.sets.flatMap bSet = L ++ bTxn t := by
 have h : t.reads.flatMap bInt = t.reads.map byteOf := by
  generalize t.reads = l
  induction l with
  | nil => rfl
  | cons x l ih => rw [List.flatMap_cons,List.map_cons,ih];rfl
 unfold bTxn bList
 rw [h]
 simp
theorem bGuard_cut (g : Guard) (L : List UInt8) : (L ++ [g.kind].map byteOf) ++ [g.a,g.b].flatMap bOp = L ++ bGuard g := by
 unfold bGuard;simp
theorem bSet_cut (s : SetT) (L : List UInt8) : (L ++ [s.key,s.op].map byteOf) ++ [s.a,s.b].flatMap bOp = L ++ bSet s := by
 unfold bSet;simp
theorem wire_Write_ok (p : Plan) (hB : TxsB p.txns) (h0 : checkPlan p = 0) : Fn CC 19 [planV p] (IV.tup [IV.str (bPlan p),IV.int 0]) := by
 obtain ⟨hs1,hs2,hs3⟩ := yQ h0
 obtain ⟨hs4,hs5⟩ := y7 hs3
 refine Fn.of_wp _ Tryz.func19 rfl (by kernel_rfl) Tryz.ntmps19 rfl ?_
 intro F hD hG
 (refine zR ?_;(iterate 3 refine sA ?_);refine zN ?_)
 (refine zR ?_;refine sA ?_;refine ALK.n (o3 (yA p hB) (Evs.cons Ev.a Evs.nil)) rfl ?_;refine sA ?_;refine zN ?_)
 (refine zR ?_;(iterate 2 refine sA ?_);refine zN ?_)
 refine zC (fun h => ?_) (fun h => ?_)
 ·simp [h0] at h
 refine zS ?_
 clear h
 (refine zR ?_;refine sA ?_;refine ALK.a (uT (eB rfl) Cs.a) rfl ?_;refine sA ?_;refine zN ?_)
 refine WP.shift (Shift.row0In 0 0 5 1 cU8 (fun _ => rfl) rfl rfl rfl) ?_
 (refine zR ?_;refine sA ?_;refine fd 0 ?_;refine sA ?_;refine fd 1 ?_;(iterate 2 refine sA ?_);refine ALK.n (o6 rfl rfl rfl rfl rfl rfl (Pc rfl (eB rfl) Cs.a rfl rfl (Pc rfl (eB rfl) Cs.a rfl rfl Parts.nil)) rfl) rfl ?_;refine ALK.e (o5 [0,1] (yr [] [p.shards,p.txns.length] (by simp)) EvsS.a rfl rfl rfl HIn.a) rfl rfl ?_;refine zN ?_)
 (refine zR ?_;refine fd 1 ?_;(iterate 3 refine sA ?_);refine zN ?_)
 refine zB ?_
 refine WP.loop (fun k : Nat => ⟨[(30,.im (IV.int k)),(28,.im (txsV p.txns)),(29,.im (IV.int p.txns.length)),(1,.im (IV.ptr (cP p))),(5,.off 0 0)],penH 0 1 ([byteOf p.shards,byteOf p.txns.length] ++ (p.txns.take k).flatMap bTxn),2⟩) (fun k => k ≤ p.txns.length) (fun k => p.txns.length - k) 0 (Nat.zero_le _) (Shift.sub [(0,0),(1,2)] rfl SubE.a (SubH.cons rfl rfl (ObLe.blk (SLes.cons (SLe.row rfl (by simp)) SLes.nil)) (SubH.cons rfl rfl (ObLe.row (by simp)) SubH.nil))) ?_
 rintro k hk
 (refine zR ?_;refine sA ?_;refine zN ?_)
 refine zC (fun h => ?_) (fun h => ?_)
 ·refine zS ?_
  have hlt : k < p.txns.length := by simpa using h
  obtain ⟨t,ht⟩ := oc hlt
  obtain ⟨⟨z1,z2,_,z3⟩,_,_⟩ := yX (hs5 t (List.mem_of_getElem? ht))
  have hfl := yy bTxn 105 (p.txns.take k) fun t ht => by
   obtain ⟨a,b,_,c⟩ := (yX (hs5 t (List.mem_of_mem_take ht))).1
   exact len_txn a b c
  rw [List.length_take] at hfl
  have hlL : ([byteOf p.shards,byteOf p.txns.length] ++ (p.txns.take k).flatMap bTxn).length ≤ 2000 := by simp only [List.length_append,List.length_cons,List.length_nil];omega
  have hfin : [byteOf p.shards,byteOf p.txns.length] ++ (p.txns.take (k + 1)).flatMap bTxn = ([byteOf p.shards,byteOf p.txns.length] ++ (p.txns.take k).flatMap bTxn) ++ bTxn t := by rw [oM ht,List.flatMap_append,List.append_assoc];simp
  obtain ⟨L,hL⟩ : ∃ L,L = [byteOf p.shards,byteOf p.txns.length] ++ (p.txns.take k).flatMap bTxn := ⟨_,rfl⟩
  rw [← hL] at hlL hfin ⊢
  refine zB ?_
  (refine zR ?_;(iterate 4 refine sA ?_);refine zN ?_)
  refine WP.shift (Shift.frzBlk 7 rfl rfl rfl) ?_
  (refine zR ?_;refine sA ?_;refine fd 0 ?_;(iterate 2 refine sA ?_);refine ALK.n (o6 rfl rfl rfl rfl rfl rfl (Pc rfl (eB rfl) Cs.a rfl rfl Parts.nil) rfl) rfl ?_;refine ALK.e (o5 [0,1] (yr L [t.reads.length] (by simp;omega)) EvsS.a rfl rfl rfl HIn.a) rfl rfl ?_;refine zN ?_)
  (refine zR ?_;refine sA ?_;refine fd 0 ?_;refine sA ?_;refine ALK.e (o5 [0,3] (yr (L ++ [byteOf t.reads.length]) t.reads (by simp;omega)) EvsS.a rfl rfl rfl HIn.a) rfl rfl ?_;refine zN ?_)
  (refine zR ?_;refine sA ?_;refine fd 1 ?_;(iterate 2 refine sA ?_);refine ALK.n (o6 rfl rfl rfl rfl rfl rfl (Pc rfl (eB rfl) Cs.a rfl rfl Parts.nil) rfl) rfl ?_;refine ALK.e (o5 [0,4] (yr ((L ++ [byteOf t.reads.length]) ++ t.reads.map byteOf) [t.guards.length] (by simp;omega)) EvsS.a rfl rfl rfl HIn.a) rfl rfl ?_;refine zN ?_)
  (refine zR ?_;refine fd 1 ?_;(iterate 3 refine sA ?_);refine zN ?_)
  obtain ⟨M,hM⟩ : ∃ M,M = ((L ++ [byteOf t.reads.length]) ++ t.reads.map byteOf) ++ [byteOf t.guards.length] := ⟨_,rfl⟩
  have hlM : M.length ≤ 3000 := by rw [hM];simp;omega
  refine zB ?_
  refine WP.loop (fun j : Nat => ⟨[(53,.im (IV.int j)),(51,.im (IV.view 5 cG t.guards)),(52,.im (IV.int t.guards.length)),(7,.im (IV.ptr (cT t))),(30,.im (IV.int k)),(28,.im (txsV p.txns)),(29,.im (IV.int p.txns.length)),(1,.im (IV.ptr (cP p))),(5,.off 0 0)],penH 0 1 (M ++ (t.guards.take j).flatMap bGuard),2⟩) (fun j => j ≤ t.guards.length) (fun j => t.guards.length - j) 0 (Nat.zero_le _) (Shift.sub [(0,0),(1,5)] rfl SubE.a (SubH.cons rfl rfl (ObLe.blk (SLes.cons (SLe.row rfl (by rw [hM];simp)) SLes.nil)) (SubH.cons rfl rfl (ObLe.row (by rw [hM];simp)) SubH.nil))) ?_
  rintro j hj
  (refine zR ?_;refine sA ?_;refine zN ?_)
  refine zC (fun h => ?_) (fun h => ?_)
  ·refine zS ?_
   have hlt2 : j < t.guards.length := by simpa using h
   obtain ⟨g,hg⟩ := oc hlt2
   have hfl2 := yy bGuard 19 (t.guards.take j) fun x _ => Nat.le_of_eq (qD x)
   rw [List.length_take] at hfl2
   have hn : M ++ (t.guards.take (j + 1)).flatMap bGuard = (M ++ (t.guards.take j).flatMap bGuard) ++ bGuard g := by rw [oM hg,List.flatMap_append,List.append_assoc];simp
   obtain ⟨N,hN⟩ : ∃ N,N = M ++ (t.guards.take j).flatMap bGuard := ⟨_,rfl⟩
   have hlN : N.length ≤ 4000 := by rw [hN,List.length_append];omega
   rw [← hN] at hn ⊢
   refine zB ?_
   (refine zR ?_;(iterate 4 refine sA ?_);refine zN ?_)
   refine WP.shift (Shift.frzBlk 9 rfl rfl rfl) ?_
   (refine zR ?_;refine sA ?_;refine fd 0 ?_;refine sA ?_;refine ALK.n (o6 rfl rfl rfl rfl rfl rfl (Pc rfl (eB rfl) Cs.a rfl rfl Parts.nil) rfl) rfl ?_;refine ALK.e (o5 [0,1] (yr N [g.kind] (by simp;omega)) EvsS.a rfl rfl rfl HIn.a) rfl rfl ?_;refine zN ?_)
   (refine zR ?_;refine sA ?_;refine fd 1 ?_;refine sA ?_;refine fd 3 ?_;refine sA ?_;refine ALK.n (o6 rfl rfl rfl rfl rfl rfl (Pc rfl (eB rfl) Cs.a rfl rfl (Pc rfl (eB rfl) Cs.a rfl rfl Parts.nil)) rfl) rfl ?_;refine ALK.e (o5 [0,3] (qN (N ++ [g.kind].map byteOf) [g.a,g.b] (by simp;omega)) EvsS.a rfl rfl rfl HIn.a) rfl rfl ?_;refine zN ?_)
   (refine zR ?_;(iterate 2 refine sA ?_);refine zN ?_)
   show ∃ _,_ ∧ _ ∧ _
   rw [← bGuard_cut] at hn
   exact ⟨j + 1,by omega,by omega,Shift.sub [(0,0),(1,4)] rfl SubE.a (SubH.cons rfl rfl (ObLe.blk (SLes.cons (SLe.row rfl (by rw [hn])) SLes.nil)) (SubH.cons rfl rfl (ObLe.row hn.symm) SubH.nil))⟩
  ·refine zE ?_
   have hje : j = t.guards.length := by simp at h;omega
   subst hje
   rw [List.take_length]
   have hfl2 := yy bGuard 19 t.guards fun x _ => Nat.le_of_eq (qD x)
   obtain ⟨N,hN⟩ : ∃ N,N = M ++ t.guards.flatMap bGuard := ⟨_,rfl⟩
   have hlN : N.length ≤ 4000 := by rw [hN,List.length_append];omega
   rw [← hN]
   (refine zR ?_;refine sA ?_;refine fd 2 ?_;(iterate 2 refine sA ?_);refine ALK.n (o6 rfl rfl rfl rfl rfl rfl (Pc rfl (eB rfl) Cs.a rfl rfl Parts.nil) rfl) rfl ?_;refine ALK.e (o5 [0,1] (yr N [t.sets.length] (by simp;omega)) EvsS.a rfl rfl rfl HIn.a) rfl rfl ?_;refine zN ?_)
   (refine zR ?_;refine fd 2 ?_;(iterate 3 refine sA ?_);refine zN ?_)
   refine zB ?_
   refine WP.loop (fun i : Nat => ⟨[(79,.im (IV.int i)),(77,.im (IV.view 6 cS t.sets)),(78,.im (IV.int t.sets.length)),(30,.im (IV.int k)),(28,.im (txsV p.txns)),(29,.im (IV.int p.txns.length)),(1,.im (IV.ptr (cP p))),(5,.off 0 0)],penH 0 1 ((N ++ [byteOf t.sets.length]) ++ (t.sets.take i).flatMap bSet),2⟩) (fun i => i ≤ t.sets.length) (fun i => t.sets.length - i) 0 (Nat.zero_le _) (Shift.sub [(0,0),(1,2)] rfl SubE.a (SubH.cons rfl rfl (ObLe.blk (SLes.cons (SLe.row rfl (by simp)) SLes.nil)) (SubH.cons rfl rfl (ObLe.row (by simp)) SubH.nil))) ?_
   rintro i hi
   (refine zR ?_;refine sA ?_;refine zN ?_)
   refine zC (fun h => ?_) (fun h => ?_)
   ·refine zS ?_
    have hlt3 : i < t.sets.length := by simpa using h
    obtain ⟨s,hs⟩ := oc hlt3
    have hfl3 := yy bSet 20 (t.sets.take i) fun x _ => Nat.le_of_eq (len_set x)
    rw [List.length_take] at hfl3
    have hn : (N ++ [byteOf t.sets.length]) ++ (t.sets.take (i + 1)).flatMap bSet = ((N ++ [byteOf t.sets.length]) ++ (t.sets.take i).flatMap bSet) ++ bSet s := by rw [oM hs,List.flatMap_append];simp
    obtain ⟨O,hO⟩ : ∃ O,O = (N ++ [byteOf t.sets.length]) ++ (t.sets.take i).flatMap bSet := ⟨_,rfl⟩
    have hlO : O.length ≤ 5000 := by rw [hO];simp only [List.length_append,List.length_cons,List.length_nil];omega
    rw [← hO] at hn ⊢
    refine zB ?_
    (refine zR ?_;(iterate 4 refine sA ?_);refine zN ?_)
    refine WP.shift (Shift.frzBlk 11 rfl rfl rfl) ?_
    (refine zR ?_;refine sA ?_;refine fd 0 ?_;refine sA ?_;refine fd 1 ?_;refine sA ?_;refine ALK.n (o6 rfl rfl rfl rfl rfl rfl (Pc rfl (eB rfl) Cs.a rfl rfl (Pc rfl (eB rfl) Cs.a rfl rfl Parts.nil)) rfl) rfl ?_;refine ALK.e (o5 [0,1] (yr O [s.key,s.op] (by simp;omega)) EvsS.a rfl rfl rfl HIn.a) rfl rfl ?_;refine zN ?_)
    (refine zR ?_;refine sA ?_;refine fd 2 ?_;refine sA ?_;refine fd 4 ?_;refine sA ?_;refine ALK.n (o6 rfl rfl rfl rfl rfl rfl (Pc rfl (eB rfl) Cs.a rfl rfl (Pc rfl (eB rfl) Cs.a rfl rfl Parts.nil)) rfl) rfl ?_;refine ALK.e (o5 [0,3] (qN (O ++ [s.key,s.op].map byteOf) [s.a,s.b] (by simp;omega)) EvsS.a rfl rfl rfl HIn.a) rfl rfl ?_;refine zN ?_)
    (refine zR ?_;(iterate 2 refine sA ?_);refine zN ?_)
    show ∃ _,_ ∧ _ ∧ _
    rw [← bSet_cut] at hn
    exact ⟨i + 1,by omega,by omega,Shift.sub [(0,0),(1,4)] rfl SubE.a (SubH.cons rfl rfl (ObLe.blk (SLes.cons (SLe.row rfl (by rw [hn])) SLes.nil)) (SubH.cons rfl rfl (ObLe.row hn.symm) SubH.nil))⟩
   ·refine zE ?_
    have hie : i = t.sets.length := by simp at h;omega
    subst hie
    rw [List.take_length]
    (refine zR ?_;(iterate 2 refine sA ?_);refine zN ?_)
    show ∃ _,_ ∧ _ ∧ _
    have hn : (N ++ [byteOf t.sets.length]) ++ t.sets.flatMap bSet = [byteOf p.shards,byteOf p.txns.length] ++ (p.txns.take (k + 1)).flatMap bTxn := by
     rw [hfin,← bTxn_cut,hN,hM]
    exact ⟨k + 1,by omega,by omega,Shift.sub [(0,0),(1,1)] rfl SubE.a (SubH.cons rfl rfl (ObLe.blk (SLes.cons (SLe.row rfl (by rw [hn])) SLes.nil)) (SubH.cons rfl rfl (ObLe.row hn) SubH.nil))⟩
 ·refine zE ?_
  have hke : k = p.txns.length := by simp at h;omega
  subst hke
  rw [List.take_length]
  have hn : [byteOf p.shards,byteOf p.txns.length] ++ p.txns.flatMap bTxn = bPlan p := rfl
  rw [hn]
  refine WP.shift (Shift.frzIn 0 0 rfl rfl rfl rfl) ?_
  (refine zR ?_;(iterate 2 refine sA ?_);refine fd 0 ?_;refine sA ?_;refine ALK.n (opn_toStr rfl rfl (eB rfl)) rfl ?_;(iterate 2 refine sA ?_);refine zN ?_)
  exact zT Tryz.results19
theorem wire_Write_no (p : Plan) (hB : TxsB p.txns) (h0 : checkPlan p ≠ 0) : Fn CC 19 [planV p] (IV.tup [IV.str [],IV.int (checkPlan p)]) := by
 refine Fn.of_wp _ Tryz.func19 rfl (by kernel_rfl) Tryz.ntmps19 rfl ?_
 intro F hD hG
 (refine zR ?_;(iterate 3 refine sA ?_);refine zN ?_)
 (refine zR ?_;refine sA ?_;refine ALK.n (o3 (yA p hB) (Evs.cons Ev.a Evs.nil)) rfl ?_;refine sA ?_;refine zN ?_)
 (refine zR ?_;(iterate 2 refine sA ?_);refine zN ?_)
 refine zC (fun h => ?_) (fun h => ?_)
 ·(refine zR ?_;(iterate 3 refine sA ?_);refine zN ?_)
  exact zT Tryz.results19
 ·simp [h0] at h
def writeS (p : Plan) : List UInt8 := if checkPlan p = 0 then bPlan p else []
theorem wire_Write_fn (p : Plan) (hB : TxsB p.txns) : Fn CC 19 [planV p] (IV.tup [IV.str (writeS p),IV.int (checkPlan p)]) := by
 unfold writeS
 by_cases h : checkPlan p = 0
 ·rw [if_pos h,h];exact wire_Write_ok p hB h
 ·rw [if_neg h];exact wire_Write_no p hB h
end Go.Proofs.YtjgmbgfcffnanaaGreatDoor
