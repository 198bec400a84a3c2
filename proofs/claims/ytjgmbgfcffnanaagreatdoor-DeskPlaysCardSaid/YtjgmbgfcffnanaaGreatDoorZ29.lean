/- The reference: a plan as bytes. The reference: a plan out of bytes. -/
import Derived.Test.YtjgmbgfcffnanaaGreatDoorZ28
set_option maxRecDepth 100000
set_option maxHeartbeats 4000000
namespace Go.Proofs.YtjgmbgfcffnanaaGreatDoor
open Go.RowKit
theorem shrI_0 (n : Int) : shrI n 0 = n := by rw [shr_div];simp
theorem ref_eight_fn (n : Int) : Fn CC 136 [IV.int n] (bytesV (eightB n)) := by
 refine Fn.of_wp _ Tryz.func136 rfl (by kernel_rfl) Tryz.ntmps136 rfl ?_
 intro F hD hG
 (refine zR ?_;refine sA ?_;refine zN ?_)
 (refine zR ?_;refine sA ?_;refine ALK.n (qz (n := 56) (eB rfl) (eB rfl) rfl (by omega)) rfl ?_;(first | refine ALK.n (y1 (by kernel_rfl) (by kernel_rfl) (by kernel_rfl) (eB rfl)) rfl ?_ | refine ALK.n (oZ (by kernel_rfl) (by kernel_rfl) (by kernel_rfl) (eB rfl)) rfl ?_);refine sA ?_;refine ALK.n (qz (n := 48) (eB rfl) (eB rfl) rfl (by omega)) rfl ?_;(first | refine ALK.n (y1 (by kernel_rfl) (by kernel_rfl) (by kernel_rfl) (eB rfl)) rfl ?_ | refine ALK.n (oZ (by kernel_rfl) (by kernel_rfl) (by kernel_rfl) (eB rfl)) rfl ?_);refine sA ?_;refine ALK.n (qz (n := 40) (eB rfl) (eB rfl) rfl (by omega)) rfl ?_;(first | refine ALK.n (y1 (by kernel_rfl) (by kernel_rfl) (by kernel_rfl) (eB rfl)) rfl ?_ | refine ALK.n (oZ (by kernel_rfl) (by kernel_rfl) (by kernel_rfl) (eB rfl)) rfl ?_);refine sA ?_;refine ALK.n (qz (n := 32) (eB rfl) (eB rfl) rfl (by omega)) rfl ?_;(first | refine ALK.n (y1 (by kernel_rfl) (by kernel_rfl) (by kernel_rfl) (eB rfl)) rfl ?_ | refine ALK.n (oZ (by kernel_rfl) (by kernel_rfl) (by kernel_rfl) (eB rfl)) rfl ?_);refine sA ?_;refine ALK.n (qz (n := 24) (eB rfl) (eB rfl) rfl (by omega)) rfl ?_;(first | refine ALK.n (y1 (by kernel_rfl) (by kernel_rfl) (by kernel_rfl) (eB rfl)) rfl ?_ | refine ALK.n (oZ (by kernel_rfl) (by kernel_rfl) (by kernel_rfl) (eB rfl)) rfl ?_);refine sA ?_;refine ALK.n (qz (n := 16) (eB rfl) (eB rfl) rfl (by omega)) rfl ?_;(first | refine ALK.n (y1 (by kernel_rfl) (by kernel_rfl) (by kernel_rfl) (eB rfl)) rfl ?_ | refine ALK.n (oZ (by kernel_rfl) (by kernel_rfl) (by kernel_rfl) (eB rfl)) rfl ?_);refine sA ?_;refine ALK.n (qz (n := 8) (eB rfl) (eB rfl) rfl (by omega)) rfl ?_;(first | refine ALK.n (y1 (by kernel_rfl) (by kernel_rfl) (by kernel_rfl) (eB rfl)) rfl ?_ | refine ALK.n (oZ (by kernel_rfl) (by kernel_rfl) (by kernel_rfl) (eB rfl)) rfl ?_);refine sA ?_;refine ALK.n (s := .im (IV.val (.int .u8 ((byteOf (shrI n 0)).toNat : Int)))) (by rw [shrI_0];exact y1 (by kernel_rfl) (by kernel_rfl) (by kernel_rfl) (eB rfl)) rfl ?_;refine ALK.n (o6 rfl rfl rfl rfl rfl rfl (Pc rfl (eB rfl) Cs.a rfl rfl (Pc rfl (eB rfl) Cs.a rfl rfl (Pc rfl (eB rfl) Cs.a rfl rfl (Pc rfl (eB rfl) Cs.a rfl rfl (Pc rfl (eB rfl) Cs.a rfl rfl (Pc rfl (eB rfl) Cs.a rfl rfl (Pc rfl (eB rfl) Cs.a rfl rfl (Pc rfl (eB rfl) Cs.a rfl rfl Parts.nil)))))))) rfl) rfl ?_;refine sA ?_;refine zN ?_)
 exact zT Tryz.results136
theorem yx (o : YtjgmbgfcffnanaaGreatDoor.Operand) : Fn CC 98 [IV.agg (cOp o)] (bytesV (bOp o)) := by
 refine Fn.of_wp _ Tryz.func98 rfl (by kernel_rfl) Tryz.ntmps98 rfl ?_
 intro F hD hG
 (refine zR ?_;(iterate 2 refine sA ?_);refine zN ?_)
 (refine zW ?_;refine fd 0 ?_;refine sA ?_;(first | refine ALK.n (y1 (by kernel_rfl) (by kernel_rfl) (by kernel_rfl) (eB rfl)) rfl ?_ | refine ALK.n (oZ (by kernel_rfl) (by kernel_rfl) (by kernel_rfl) (eB rfl)) rfl ?_);refine ALK.a (opa_slitRow cU8 [byteOf o.kind] rfl rfl rfl rfl rfl rfl (Pc rfl (eB rfl) Cs.a rfl rfl Parts.nil) rfl rfl (fun _ => rfl) rfl) rfl ?_;refine fd 1 ?_;refine sA ?_;refine ALK.n (o3 (ref_eight_fn o.n) (Evs.cons Ev.a Evs.nil)) rfl ?_;refine ALK.e (o8 (b := 1) (eightB o.n) rfl rfl rfl rfl rfl (eB rfl) (eB rfl) rfl rfl (by simp [eightB_len]) rfl) rfl rfl ?_;refine sA ?_;refine zD ?_)
 refine WP.shift (Shift.frzRow 2 rfl rfl) ?_
 exact zT Tryz.results98
theorem bGuard_cut3 (g : Guard) (L : List UInt8) : ((L ++ [byteOf g.kind]) ++ bOp g.a) ++ bOp g.b = L ++ bGuard g := by
 unfold bGuard;simp
theorem bSet_cut3 (s : SetT) (L : List UInt8) : ((L ++ [byteOf s.key,byteOf s.op]) ++ bOp s.a) ++ bOp s.b = L ++ bSet s := by
 unfold bSet;simp
abbrev rowB (r : Nat) (bs : List UInt8) : Ent := (r,.row 5 1 cU8 bs)
theorem ref_PlanBytes_fn (p : Plan) (h0 : checkPlan p = 0) : Fn CC 60 [planV p] (IV.str (bPlan p)) := by
 obtain ⟨hs1,hs2,hs3⟩ := yQ h0
 obtain ⟨hs4,hs5⟩ := y7 hs3
 refine Fn.of_wp _ Tryz.func60 rfl (by kernel_rfl) Tryz.ntmps60 rfl ?_
 intro F hD hG
 (refine zR ?_;(iterate 2 refine sA ?_);refine zN ?_)
 (refine zR ?_;refine fd 0 ?_;refine sA ?_;(first | refine ALK.n (y1 (by kernel_rfl) (by kernel_rfl) (by kernel_rfl) (eB rfl)) rfl ?_ | refine ALK.n (oZ (by kernel_rfl) (by kernel_rfl) (by kernel_rfl) (eB rfl)) rfl ?_);refine fd 1 ?_;(iterate 2 refine sA ?_);(first | refine ALK.n (y1 (by kernel_rfl) (by kernel_rfl) (by kernel_rfl) (eB rfl)) rfl ?_ | refine ALK.n (oZ (by kernel_rfl) (by kernel_rfl) (by kernel_rfl) (eB rfl)) rfl ?_);refine ALK.a (opa_slitRow cU8 [byteOf p.shards,byteOf p.txns.length] rfl rfl rfl rfl rfl rfl (Pc rfl (eB rfl) Cs.a rfl rfl (Pc rfl (eB rfl) Cs.a rfl rfl Parts.nil)) rfl rfl (fun _ => rfl) rfl) rfl ?_;refine sA ?_;refine zN ?_)
 (refine zR ?_;refine sA ?_;refine zN ?_)
 refine zB ?_
 refine WP.loop (fun k : Nat => ⟨[(4,.im (IV.int k)),(3,.row 0 ([byteOf p.shards,byteOf p.txns.length] ++ (p.txns.take k).flatMap bTxn).length),(1,.im (IV.ptr (cP p)))],[rowB 0 ([byteOf p.shards,byteOf p.txns.length] ++ (p.txns.take k).flatMap bTxn)],1⟩) (fun k => k ≤ p.txns.length) (fun k => p.txns.length - k) 0 (Nat.zero_le _) (Shift.sub [(0,0)] rfl (SubE.cons rfl (SLe.im (ILe.int rfl)) (SubE.cons rfl (SLe.row rfl (by simp)) SubE.a)) (SubH.cons rfl rfl (ObLe.row (by simp)) SubH.nil)) ?_
 rintro k hk
 (refine zR ?_;refine sA ?_;refine fd 1 ?_;(iterate 3 refine sA ?_);refine zN ?_)
 refine zC (fun h => ?_) (fun h => ?_)
 ·refine zS ?_
  have hlt : k < p.txns.length := by simpa using h
  obtain ⟨t,ht⟩ := oc hlt
  obtain ⟨⟨z1,z2,_,z3⟩,_,_⟩ := yX (hs5 t (List.mem_of_getElem? ht))
  have hfl := yy bTxn 105 (p.txns.take k) fun t ht => by
   obtain ⟨a,b,_,c⟩ := (yX (hs5 t (List.mem_of_mem_take ht))).1
   exact len_txn a b c
  rw [List.length_take] at hfl
  have hlL : ([byteOf p.shards,byteOf p.txns.length] ++ (p.txns.take k).flatMap bTxn).length ≤ 2000 := by simp only [List.length_append,List.length_cons,List.length_nil];omega
  have hfin : [byteOf p.shards,byteOf p.txns.length] ++ (p.txns.take (k + 1)).flatMap bTxn = ([byteOf p.shards,byteOf p.txns.length] ++ (p.txns.take k).flatMap bTxn) ++ bTxn t := by rw [oM ht,List.flatMap_append,List.append_assoc];simp
  obtain ⟨L,hL⟩ : ∃ L,L = [byteOf p.shards,byteOf p.txns.length] ++ (p.txns.take k).flatMap bTxn := ⟨_,rfl⟩
  rw [← hL] at hlL hfin ⊢
  refine zB ?_
  (refine zR ?_;refine fd 1 ?_;(iterate 6 refine sA ?_);refine zN ?_)
  refine WP.shift (Shift.frzBlk 5 rfl rfl rfl) ?_
  (refine zR ?_;refine sA ?_;refine fd 0 ?_;(iterate 2 refine sA ?_);(first | refine ALK.n (y1 (by kernel_rfl) (by kernel_rfl) (by kernel_rfl) (eB rfl)) rfl ?_ | refine ALK.n (oZ (by kernel_rfl) (by kernel_rfl) (by kernel_rfl) (eB rfl)) rfl ?_);refine ALK.n (o6 rfl rfl rfl rfl rfl rfl (Pc rfl (eB rfl) Cs.a rfl rfl Parts.nil) rfl) rfl ?_;refine ALK.e (o8 (b := 1) [byteOf t.reads.length] rfl rfl rfl rfl rfl (eB rfl) (eB rfl) rfl rfl (by simp;omega) rfl) rfl rfl ?_;refine sA ?_;refine zN ?_)
  (refine zR ?_;refine sA ?_;refine zN ?_)
  refine zB ?_
  refine WP.loop (fun j : Nat => ⟨[(6,.im (IV.int j)),(3,.row 0 ((L ++ [byteOf t.reads.length]) ++ (t.reads.take j).map byteOf).length),(5,.im (IV.ptr (cT t))),(4,.im (IV.int k)),(1,.im (IV.ptr (cP p)))],[rowB 0 ((L ++ [byteOf t.reads.length]) ++ (t.reads.take j).map byteOf)],1⟩) (fun j => j ≤ t.reads.length) (fun j => t.reads.length - j) 0 (Nat.zero_le _) (Shift.sub [(0,2)] rfl (SubE.cons rfl (SLe.im (ILe.int rfl)) (SubE.cons rfl (SLe.row rfl (by simp)) SubE.a)) (SubH.cons rfl rfl (ObLe.row (by simp)) SubH.nil)) ?_
  rintro j hj
  (refine zR ?_;refine sA ?_;refine fd 0 ?_;(iterate 3 refine sA ?_);refine zN ?_)
  refine zC (fun h => ?_) (fun h => ?_)
  ·refine zS ?_
   have hlt2 : j < t.reads.length := by simpa using h
   obtain ⟨q,hq⟩ := oc hlt2
   have hn : (L ++ [byteOf t.reads.length]) ++ (t.reads.take (j + 1)).map byteOf = ((L ++ [byteOf t.reads.length]) ++ (t.reads.take j).map byteOf) ++ [byteOf q] := by rw [oM hq,List.map_append,← List.append_assoc];rfl
   refine zB ?_
   (refine zR ?_;refine sA ?_;refine fd 0 ?_;(iterate 4 refine sA ?_);(first | refine ALK.n (y1 (by kernel_rfl) (by kernel_rfl) (by kernel_rfl) (eB rfl)) rfl ?_ | refine ALK.n (oZ (by kernel_rfl) (by kernel_rfl) (by kernel_rfl) (eB rfl)) rfl ?_);refine ALK.n (o6 rfl rfl rfl rfl rfl rfl (Pc rfl (eB rfl) Cs.a rfl rfl Parts.nil) rfl) rfl ?_;refine ALK.e (o8 (b := 1) [byteOf q] rfl rfl rfl rfl rfl (eB rfl) (eB rfl) rfl rfl (by simp;omega) rfl) rfl rfl ?_;refine sA ?_;refine zN ?_)
   (refine zR ?_;(iterate 3 refine sA ?_);refine zN ?_)
   show ∃ _,_ ∧ _ ∧ _
   exact ⟨j + 1,by omega,by omega,Shift.sub [(0,1)] rfl (SubE.cons rfl (SLe.im (ILe.int rfl)) (SubE.cons rfl (SLe.row rfl (by rw [hn];simp only [List.length_append])) SubE.a)) (SubH.cons rfl rfl (ObLe.row hn.symm) SubH.nil)⟩
  ·refine zE ?_
   have hje : j = t.reads.length := by simp at h;omega
   subst hje
   rw [List.take_length]
   obtain ⟨M,hM⟩ : ∃ M,M = (L ++ [byteOf t.reads.length]) ++ t.reads.map byteOf := ⟨_,rfl⟩
   have hlM : M.length ≤ 3000 := by rw [hM];simp;omega
   rw [← hM]
   (refine zR ?_;refine sA ?_;refine fd 1 ?_;(iterate 2 refine sA ?_);(first | refine ALK.n (y1 (by kernel_rfl) (by kernel_rfl) (by kernel_rfl) (eB rfl)) rfl ?_ | refine ALK.n (oZ (by kernel_rfl) (by kernel_rfl) (by kernel_rfl) (eB rfl)) rfl ?_);refine ALK.n (o6 rfl rfl rfl rfl rfl rfl (Pc rfl (eB rfl) Cs.a rfl rfl Parts.nil) rfl) rfl ?_;refine ALK.e (o8 (b := 1) [byteOf t.guards.length] rfl rfl rfl rfl rfl (eB rfl) (eB rfl) rfl rfl (by simp;omega) rfl) rfl rfl ?_;refine sA ?_;refine zN ?_)
   (refine zR ?_;refine sA ?_;refine zN ?_)
   refine zB ?_
   refine WP.loop (fun j : Nat => ⟨[(7,.im (IV.int j)),(3,.row 0 ((M ++ [byteOf t.guards.length]) ++ (t.guards.take j).flatMap bGuard).length),(5,.im (IV.ptr (cT t))),(4,.im (IV.int k)),(1,.im (IV.ptr (cP p)))],[rowB 0 ((M ++ [byteOf t.guards.length]) ++ (t.guards.take j).flatMap bGuard)],1⟩) (fun j => j ≤ t.guards.length) (fun j => t.guards.length - j) 0 (Nat.zero_le _) (Shift.sub [(0,1)] rfl (SubE.cons rfl (SLe.im (ILe.int rfl)) (SubE.cons rfl (SLe.row rfl (by simp)) SubE.a)) (SubH.cons rfl rfl (ObLe.row (by simp)) SubH.nil)) ?_
   rintro j hj
   (refine zR ?_;refine sA ?_;refine fd 1 ?_;(iterate 3 refine sA ?_);refine zN ?_)
   refine zC (fun h => ?_) (fun h => ?_)
   ·refine zS ?_
    have hlt2 : j < t.guards.length := by simpa using h
    obtain ⟨g,hg⟩ := oc hlt2
    have hfl2 := yy bGuard 19 (t.guards.take j) fun x _ => Nat.le_of_eq (qD x)
    rw [List.length_take] at hfl2
    have hn : (M ++ [byteOf t.guards.length]) ++ (t.guards.take (j + 1)).flatMap bGuard = ((M ++ [byteOf t.guards.length]) ++ (t.guards.take j).flatMap bGuard) ++ bGuard g := by rw [oM hg,List.flatMap_append];simp
    obtain ⟨N,hN⟩ : ∃ N,N = (M ++ [byteOf t.guards.length]) ++ (t.guards.take j).flatMap bGuard := ⟨_,rfl⟩
    have hlN : N.length ≤ 4000 := by rw [hN];simp only [List.length_append,List.length_cons,List.length_nil];omega
    rw [← hN] at hn ⊢
    refine zB ?_
    (refine zR ?_;refine sA ?_;refine fd 1 ?_;(iterate 3 refine sA ?_);refine fd 0 ?_;refine sA ?_;(first | refine ALK.n (y1 (by kernel_rfl) (by kernel_rfl) (by kernel_rfl) (eB rfl)) rfl ?_ | refine ALK.n (oZ (by kernel_rfl) (by kernel_rfl) (by kernel_rfl) (eB rfl)) rfl ?_);refine ALK.n (o6 rfl rfl rfl rfl rfl rfl (Pc rfl (eB rfl) Cs.a rfl rfl Parts.nil) rfl) rfl ?_;refine ALK.e (o8 (b := 1) [byteOf g.kind] rfl rfl rfl rfl rfl (eB rfl) (eB rfl) rfl rfl (by simp;omega) rfl) rfl rfl ?_;refine sA ?_;refine zN ?_)
    (refine zR ?_;refine sA ?_;refine fd 1 ?_;(iterate 3 refine sA ?_);refine fd 1 ?_;refine sA ?_;refine ALK.n (o3 (yx g.a) (Evs.cons Ev.a Evs.nil)) rfl ?_;refine ALK.e (o8 (b := 1) (bOp g.a) rfl rfl rfl rfl rfl (eB rfl) (eB rfl) rfl rfl (by simp [len_op];omega) rfl) rfl rfl ?_;refine sA ?_;refine zN ?_)
    (refine zR ?_;refine sA ?_;refine fd 1 ?_;(iterate 3 refine sA ?_);refine fd 3 ?_;refine sA ?_;refine ALK.n (o3 (yx g.b) (Evs.cons Ev.a Evs.nil)) rfl ?_;refine ALK.e (o8 (b := 1) (bOp g.b) rfl rfl rfl rfl rfl (eB rfl) (eB rfl) rfl rfl (by simp [len_op];omega) rfl) rfl rfl ?_;refine sA ?_;refine zN ?_)
    (refine zR ?_;(iterate 3 refine sA ?_);refine zN ?_)
    show ∃ _,_ ∧ _ ∧ _
    rw [← bGuard_cut3] at hn
    exact ⟨j + 1,by omega,by omega,Shift.sub [(0,3)] rfl (SubE.cons rfl (SLe.im (ILe.int rfl)) (SubE.cons rfl (SLe.row rfl (by rw [hn];simp only [List.length_append])) SubE.a)) (SubH.cons rfl rfl (ObLe.row hn.symm) SubH.nil)⟩
   ·refine zE ?_
    have hje : j = t.guards.length := by simp at h;omega
    subst hje
    rw [List.take_length]
    have hfl2 := yy bGuard 19 t.guards fun x _ => Nat.le_of_eq (qD x)
    obtain ⟨N,hN⟩ : ∃ N,N = (M ++ [byteOf t.guards.length]) ++ t.guards.flatMap bGuard := ⟨_,rfl⟩
    have hlN : N.length ≤ 4000 := by rw [hN];simp only [List.length_append,List.length_cons,List.length_nil];omega
    rw [← hN]
    (refine zR ?_;refine sA ?_;refine fd 2 ?_;(iterate 2 refine sA ?_);(first | refine ALK.n (y1 (by kernel_rfl) (by kernel_rfl) (by kernel_rfl) (eB rfl)) rfl ?_ | refine ALK.n (oZ (by kernel_rfl) (by kernel_rfl) (by kernel_rfl) (eB rfl)) rfl ?_);refine ALK.n (o6 rfl rfl rfl rfl rfl rfl (Pc rfl (eB rfl) Cs.a rfl rfl Parts.nil) rfl) rfl ?_;refine ALK.e (o8 (b := 1) [byteOf t.sets.length] rfl rfl rfl rfl rfl (eB rfl) (eB rfl) rfl rfl (by simp;omega) rfl) rfl rfl ?_;refine sA ?_;refine zN ?_)
    (refine zR ?_;refine sA ?_;refine zN ?_)
    refine zB ?_
    refine WP.loop (fun j : Nat => ⟨[(8,.im (IV.int j)),(3,.row 0 ((N ++ [byteOf t.sets.length]) ++ (t.sets.take j).flatMap bSet).length),(5,.im (IV.ptr (cT t))),(4,.im (IV.int k)),(1,.im (IV.ptr (cP p)))],[rowB 0 ((N ++ [byteOf t.sets.length]) ++ (t.sets.take j).flatMap bSet)],1⟩) (fun j => j ≤ t.sets.length) (fun j => t.sets.length - j) 0 (Nat.zero_le _) (Shift.sub [(0,1)] rfl (SubE.cons rfl (SLe.im (ILe.int rfl)) (SubE.cons rfl (SLe.row rfl (by simp)) SubE.a)) (SubH.cons rfl rfl (ObLe.row (by simp)) SubH.nil)) ?_
    rintro j hj
    (refine zR ?_;refine sA ?_;refine fd 2 ?_;(iterate 3 refine sA ?_);refine zN ?_)
    refine zC (fun h => ?_) (fun h => ?_)
    ·refine zS ?_
     have hlt2 : j < t.sets.length := by simpa using h
     obtain ⟨s,hs⟩ := oc hlt2
     have hfl3 := yy bSet 20 (t.sets.take j) fun x _ => Nat.le_of_eq (len_set x)
     rw [List.length_take] at hfl3
     have hn : (N ++ [byteOf t.sets.length]) ++ (t.sets.take (j + 1)).flatMap bSet = ((N ++ [byteOf t.sets.length]) ++ (t.sets.take j).flatMap bSet) ++ bSet s := by rw [oM hs,List.flatMap_append];simp
     obtain ⟨O,hO⟩ : ∃ O,O = (N ++ [byteOf t.sets.length]) ++ (t.sets.take j).flatMap bSet := ⟨_,rfl⟩
     have hlO : O.length ≤ 5000 := by rw [hO];simp only [List.length_append,List.length_cons,List.length_nil];omega
     rw [← hO] at hn ⊢
     refine zB ?_
     (refine zW ?_;refine sA ?_;refine fd 2 ?_;(iterate 3 refine sA ?_);refine fd 0 ?_;refine sA ?_;(first | refine ALK.n (y1 (by kernel_rfl) (by kernel_rfl) (by kernel_rfl) (eB rfl)) rfl ?_ | refine ALK.n (oZ (by kernel_rfl) (by kernel_rfl) (by kernel_rfl) (eB rfl)) rfl ?_);refine fd 2 ?_;(iterate 3 refine sA ?_);refine fd 1 ?_;refine sA ?_;(first | refine ALK.n (y1 (by kernel_rfl) (by kernel_rfl) (by kernel_rfl) (eB rfl)) rfl ?_ | refine ALK.n (oZ (by kernel_rfl) (by kernel_rfl) (by kernel_rfl) (eB rfl)) rfl ?_);refine ALK.n (o6 rfl rfl rfl rfl rfl rfl (Pc rfl (eB rfl) Cs.a rfl rfl (Pc rfl (eB rfl) Cs.a rfl rfl Parts.nil)) rfl) rfl ?_;refine ALK.e (o8 (b := 1) [byteOf s.key,byteOf s.op] rfl rfl rfl rfl rfl (eB rfl) (eB rfl) rfl rfl (by simp;omega) rfl) rfl rfl ?_;refine sA ?_;refine zD ?_)
     (refine zR ?_;refine sA ?_;refine fd 2 ?_;(iterate 3 refine sA ?_);refine fd 2 ?_;refine sA ?_;refine ALK.n (o3 (yx s.a) (Evs.cons Ev.a Evs.nil)) rfl ?_;refine ALK.e (o8 (b := 1) (bOp s.a) rfl rfl rfl rfl rfl (eB rfl) (eB rfl) rfl rfl (by simp [len_op];omega) rfl) rfl rfl ?_;refine sA ?_;refine zN ?_)
     (refine zR ?_;refine sA ?_;refine fd 2 ?_;(iterate 3 refine sA ?_);refine fd 4 ?_;refine sA ?_;refine ALK.n (o3 (yx s.b) (Evs.cons Ev.a Evs.nil)) rfl ?_;refine ALK.e (o8 (b := 1) (bOp s.b) rfl rfl rfl rfl rfl (eB rfl) (eB rfl) rfl rfl (by simp [len_op];omega) rfl) rfl rfl ?_;refine sA ?_;refine zN ?_)
     (refine zR ?_;(iterate 3 refine sA ?_);refine zN ?_)
     show ∃ _,_ ∧ _ ∧ _
     rw [← bSet_cut3] at hn
     exact ⟨j + 1,by omega,by omega,Shift.sub [(0,3)] rfl (SubE.cons rfl (SLe.im (ILe.int rfl)) (SubE.cons rfl (SLe.row rfl (by rw [hn];simp only [List.length_append])) SubE.a)) (SubH.cons rfl rfl (ObLe.row hn.symm) SubH.nil)⟩
    ·refine zE ?_
     have hje : j = t.sets.length := by simp at h;omega
     subst hje
     rw [List.take_length]
     (refine zR ?_;(iterate 3 refine sA ?_);refine zN ?_)
     show ∃ _,_ ∧ _ ∧ _
     have hn : (N ++ [byteOf t.sets.length]) ++ t.sets.flatMap bSet = [byteOf p.shards,byteOf p.txns.length] ++ (p.txns.take (k + 1)).flatMap bTxn := by
      rw [hfin,← bTxn_cut,hN,hM]
     exact ⟨k + 1,by omega,by omega,Shift.sub [(0,0)] rfl (SubE.cons rfl (SLe.im (ILe.int rfl)) (SubE.cons rfl (SLe.row rfl (by rw [hn])) SubE.a)) (SubH.cons rfl rfl (ObLe.row hn) SubH.nil)⟩
 ·refine zE ?_
  have hke : k = p.txns.length := by simp at h;omega
  subst hke
  rw [List.take_length]
  have hn : [byteOf p.shards,byteOf p.txns.length] ++ p.txns.flatMap bTxn = bPlan p := rfl
  rw [hn]
  refine WP.shift (Shift.frzRow 3 rfl rfl) ?_
  (refine zR ?_;refine sA ?_;refine ALK.n (opn_toStr rfl rfl (eB rfl)) rfl ?_;refine sA ?_;refine zN ?_)
  exact zT Tryz.results60
abbrev eyeB (s : List UInt8) : HObj := .blk 125 [.im (IV.str s)]
theorem oE (s : List UInt8) : FnE CC 57 1 [.off 0 0] [(0,eyeB s)] (.im (IV.int (byteE s).1)) [(0,eyeB (byteE s).2)] 1 [0] := by
 refine FnE.of_wp _ [(0,0)] Tryz.func57 rfl (by kernel_rfl) Tryz.ntmps57 rfl rfl rfl rfl rfl rfl rfl rfl rfl ?_
 intro F vs hD hvs
 obtain ⟨v0,rfl⟩ := len1 hvs
 show WP _ _ _ _ _ ⟨[(0,.is v0 (.off 0 0))],[(0,eyeB s)],1⟩
 (refine zR ?_;refine sI ?_;refine zN ?_)
 (refine zR ?_;(iterate 2 refine sI ?_);refine fI 0 ?_;refine sI ?_;refine ALK.n (oa (b := []) (eB rfl) (eB rfl) rfl) rfl ?_;refine zN ?_)
 cases s with
 | nil =>
  refine zC (fun h => ?_) (fun h => ?_)
  ·(refine zR ?_;refine sI ?_;refine zN ?_)
   exact zT Tryz.results57
  ·cases h
 | cons b s =>
  refine zC (fun h => ?_) (fun h => ?_)
  ·cases h
  ·refine zS ?_
   have hb : (b :: s)[(0 : Int).toNat]? = some b := rfl
   (refine zR ?_;(iterate 2 refine sI ?_);refine fI 0 ?_;refine sI ?_;refine ALK.n (yd rfl (eB rfl) (eB rfl) (by omega) (by assumption)) rfl ?_;(first | refine ALK.n (y1 (by kernel_rfl) (by kernel_rfl) (by kernel_rfl) (eB rfl)) rfl ?_ | refine ALK.n (oZ (by kernel_rfl) (by kernel_rfl) (by kernel_rfl) (eB rfl)) rfl ?_);refine sI ?_;refine zN ?_)
   (refine zR ?_;(iterate 3 refine sI ?_);refine fI 0 ?_;refine sI ?_;refine ALK.n (opn_sliceStr (k := 1) rfl (eB rfl) (eB rfl) (by simp)) rfl ?_;refine sI ?_;refine fI 0 ?_;refine sI ?_;refine zN ?_)
   (refine zR ?_;(iterate 2 refine sI ?_);refine zN ?_)
   exact zT Tryz.results57
theorem ul (s : List UInt8) : FnE CC 58 1 [.off 0 0] [(0,eyeB s)] (.im (IV.agg (cOp (opE s).1))) [(0,eyeB (opE s).2)] 1 [0] := by
 refine FnE.of_wp _ [(0,0)] Tryz.func58 rfl (by kernel_rfl) Tryz.ntmps58 rfl rfl rfl rfl rfl rfl rfl rfl rfl ?_
 intro F vs hD hvs
 obtain ⟨v0,rfl⟩ := len1 hvs
 show WP _ _ _ _ _ ⟨[(0,.is v0 (.off 0 0))],[(0,eyeB s)],1⟩
 (refine zR ?_;refine sI ?_;refine zN ?_)
 (refine zR ?_;refine sI ?_;refine ALK.e (o5 [0] (oE s) EvsS.a rfl rfl rfl HIn.a) rfl rfl ?_;refine sA ?_;(iterate 2 refine sI ?_);refine zN ?_)
 (refine zR ?_;refine sI ?_;refine zN ?_)
 refine zB ?_
 refine WP.loop (fun k : Nat => ⟨[(4,.im (IV.int k)),(0,.is v0 (.off 0 0)),(2,.off 1 0),(3,.off 2 0)],[(0,eyeB (numE k (byteE s).2).2),(1,.blk 81 [.im (IV.int 0),.im (IV.int 0)]),(2,.blk 81 [.im (IV.int (byteE s).1),.im (IV.int (numE k (byteE s).2).1)])],3⟩) (fun k => k ≤ 8) (fun k => 8 - k) 0 (Nat.zero_le _) (Shift.sub [(0,0),(1,1),(2,2)] rfl SubE.a (SubH.cons rfl rfl (ObLe.blk SLes.a) (SubH.cons rfl rfl (ObLe.blk SLes.a) (SubH.cons rfl rfl (ObLe.blk SLes.a) SubH.nil)))) ?_
 rintro k hk
 (refine zR ?_;(iterate 2 refine sI ?_);refine zN ?_)
 refine zC (fun h => ?_) (fun h => ?_)
 ·refine zS ?_
  have hk8 : k < 8 := by simp at h;omega
  have hb := uc (numE k (byteE s).2).2
  unfold IsB at hb
  refine zB ?_
  (refine zR ?_;refine sI ?_;refine ALK.e (o5 [0] (oE (numE k (byteE s).2).2) EvsS.a rfl rfl rfl HIn.a) rfl rfl ?_;refine sI ?_;refine zN ?_)
  (refine zR ?_;refine fI 1 ?_;refine sI ?_;refine ALK.n (opn_shl (n := 8) (eB rfl) (eB rfl) rfl (by omega)) rfl ?_;refine sI ?_;refine ALK.n (opn_or8 (a := (numE k (byteE s).2).1) (eB rfl) (eB rfl) rfl (by omega) (by omega)) rfl ?_;refine fI 1 ?_;refine sI ?_;refine zN ?_)
  (refine zR ?_;(iterate 3 refine sI ?_);refine zN ?_)
  show ∃ _,_ ∧ _ ∧ _
  exact ⟨k + 1,by omega,by omega,Shift.sub [(0,0),(1,1),(2,2)] rfl SubE.a (SubH.cons rfl rfl (ObLe.blk SLes.a) (SubH.cons rfl rfl (ObLe.blk SLes.a) (SubH.cons rfl rfl (ObLe.blk SLes.a) SubH.nil)))⟩
 ·refine zE ?_
  have hk8 : k = 8 := by simp at h;omega
  subst hk8
  (refine zR ?_;(iterate 2 refine sI ?_);refine zN ?_)
  exact zT Tryz.results58
end Go.Proofs.YtjgmbgfcffnanaaGreatDoor
