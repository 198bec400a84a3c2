/- The reference: a plan out of bytes. -/
import Derived.Test.YtjgmbgfcffnanaaGreatDoorZ29
set_option maxRecDepth 100000
set_option maxHeartbeats 4000000
namespace Go.Proofs.YtjgmbgfcffnanaaGreatDoor
open Go.RowKit
def LA (C : Cfg) (F : Fx) (nt : Nat) (ops : Array Oper) (Q : Exit → St → Prop) (fuel : Nat) (listed : Array Bool) (x : St) : Prop :=
 ∀ μ ρ a w,Inv F nt x μ ρ a w → wpAnyIn F.fen 9 C.P .any ops (fun e a' w' => ∃ y μ' ρ',Q e y ∧ Inv F nt y μ' ρ' a' w') fuel listed a w
section
variable {C : Cfg} {F : Fx} {nt : Nat} {ops : Array Oper} {Q : Exit → St → Prop} {fuel : Nat} {listed : Array Bool} {x : St}
theorem LA.done (hr : Region.ready .any ops listed = []) (hq : Q .normal x) : LA C F nt ops Q fuel listed x := fun μ ρ a w hi => by
 cases fuel with
 | zero => exact ⟨hr,x,μ,ρ,hq,hi⟩
 | succ n =>
  refine ⟨fun _ => ⟨x,μ,ρ,hq,hi⟩,fun i h => ?_⟩
  rw [hr] at h
  cases h
theorem LA.op {i : Nat} {o : Oper} (ho : ops[i]? = some o) (hg : o.guard = none) {k : Nat} {s : SV} {y : St} (h : Step1 C ops nt k o x s y) (t : LA C F nt ops Q fuel (listed.setIfInBounds i true) y) {μ : Mem} {ρ : Nms} {a : Act} {w : World} (hi : Inv F nt x μ ρ a w) :
 wpOpIn F.fen 9 C.P ops (fun e a' w' => ∃ y μ' ρ',Q e y ∧ Inv F nt y μ' ρ' a' w') i (wpAnyIn F.fen 9 C.P .any ops (fun e a' w' => ∃ y μ' ρ',Q e y ∧ Inv F nt y μ' ρ' a' w') fuel (listed.setIfInBounds i true)) a w := by
 unfold wpOpIn
 rw [ho]
 dsimp only
 rw [if_pos (by simp [Region.wanted,hg])]
 have h1 := Step1.sound h hi
 unfold Next1 at h1
 rw [if_pos (by simp [Region.wanted,hg])] at h1
 exact jG (fun a' w' ⟨_,_,h3⟩ => h3.defers.trans hi.defers.symm) (fun a' w' ⟨μ',ρ',h2⟩ => t _ _ _ _ h2) h1
theorem LA.s1 {i : Nat} {o : Oper} (hr : Region.ready .any ops listed = [i]) (ho : ops[i]? = some o) (hg : o.guard = none) {k : Nat} {s : SV} {y : St} (h : Step1 C ops nt k o x s y) (t : LA C F nt ops Q fuel (listed.setIfInBounds i true) y) : LA C F nt ops Q (fuel + 1) listed x := fun μ ρ a w hi => by
 refine ⟨fun h => (by rw [hr] at h;cases h),fun q hq => ?_⟩
 rw [hr] at hq
 rcases List.mem_singleton.1 hq with rfl
 exact LA.op ho hg h t hi
theorem LA.s2 {i j : Nat} {o p : Oper} (hr : Region.ready .any ops listed = [i,j]) (ho : ops[i]? = some o) (hg : o.guard = none) {k : Nat} {s : SV} {y : St} (h : Step1 C ops nt k o x s y) (hp : ops[j]? = some p) (hgp : p.guard = none) {k2 : Nat} {s2 : SV} {z : St} (h2 : Step1 C ops nt k2 p x s2 z)
 (t : LA C F nt ops Q fuel (listed.setIfInBounds i true) y) (t2 : LA C F nt ops Q fuel (listed.setIfInBounds j true) z) : LA C F nt ops Q (fuel + 1) listed x := fun μ ρ a w hi => by
 refine ⟨fun h => (by rw [hr] at h;cases h),fun q hq => ?_⟩
 rw [hr] at hq
 rcases List.mem_cons.1 hq with rfl | hq
 ·exact LA.op ho hg h t hi
 ·rcases List.mem_singleton.1 hq with rfl
  exact LA.op hp hgp h2 t2 hi
theorem WP.anyLA {id : Nat} (n : Nat) (hn : ops.size = n) (h : LA C F nt ops Q n (Array.replicate n false) x) : WP C F nt (.region id ops true) Q x := fun μ ρ a w hi => by
 subst hn
 exact wpIn_region_any C.mixed (h μ ρ a _ ⟨hi.size,hi.defers,hi.env,hi.agr,hi.heap,hi.nms,hi.os,hi.tape,hi.output,hi.hsize,hi.block,hi.le,hi.new,hi.own⟩)
theorem WP.to {c : Code} (Z : St) (h : WP C F nt c (fun e y => e = .normal ∧ Shift F nt y Z) x) (hq : Q .normal Z) : WP C F nt c Q x := fun μ ρ a w hi => wpIn_mono (h μ ρ a w hi) fun e a' w' ⟨y,μ',ρ',⟨he,h1⟩,h3⟩ => by
 subst he
 obtain ⟨μ2,ρ2,h4⟩ := h1 _ _ _ _ h3
 exact ⟨Z,μ2,ρ2,hq,h4⟩
end
theorem listE_cut {α : Type} (p : Ey α) (s : List UInt8) : listE p s = repE p (byteE s).1.toNat (byteE s).2 := rfl
theorem ref_PlanFrom_fn (b : List UInt8) : Fn CC 16 [IV.str b] (IV.tup [planV (fromS b).1,IV.bool (fromS b).2]) := by
 refine Fn.of_wp _ Tryz.func16 rfl (by kernel_rfl) Tryz.ntmps16 rfl ?_
 intro F hD hG
 (refine zR ?_;(iterate 2 refine sA ?_);refine zN ?_)
 (refine zR ?_;(iterate 2 refine sA ?_);refine ALK.a (uT (eB rfl) Cs.a) rfl ?_;refine sA ?_;refine zN ?_)
 (refine zR ?_;refine sA ?_;refine ALK.e (o5 [1] (oE b) EvsS.a rfl rfl rfl HIn.a) rfl rfl ?_;(iterate 3 refine sA ?_);refine zN ?_)
 (refine zR ?_;refine sA ?_;refine ALK.e (o5 [1] (oE (byteE b).2) EvsS.a rfl rfl rfl HIn.a) rfl rfl ?_;refine sA ?_;refine zN ?_)
 refine WP.shift (Shift.row0In 2 1 75 3 cT (fun _ => rfl) rfl rfl rfl) ?_
 have hq0 : planE' b = (⟨(byteE b).1,(repE txnE (byteE (byteE b).2).1.toNat (byteE (byteE b).2).2).1⟩,(repE txnE (byteE (byteE b).2).1.toNat (byteE (byteE b).2).2).2) := rfl
 have hb0 := uc (byteE b).2
 unfold IsB at hb0
 obtain ⟨sh,hsh⟩ : ∃ sh,sh = (byteE b).1 := ⟨_,rfl⟩
 obtain ⟨n0,hn0⟩ : ∃ n,n = (byteE (byteE b).2).1 := ⟨_,rfl⟩
 obtain ⟨r0,hr0⟩ : ∃ r,r = (byteE (byteE b).2).2 := ⟨_,rfl⟩
 rw [← hsh,← hn0,← hr0] at hq0
 rw [← hn0] at hb0
 rw [← hsh,← hn0,← hr0]
 refine zB ?_
 refine WP.loop (fun c : Nat × List Txn × List UInt8 => ⟨[(6,.im (IV.int (n0 - (c.1 : Int)))),(0,.im (IV.str b)),(2,.off 0 0),(3,.im (IV.bool false)),(4,.off 1 0),(5,.off 2 0)],[(0,.blk 29 [.im (IV.int 0),.im (IV.val (.slice none 0 0))]),(1,eyeB c.2.2),(2,.blk 29 [.im (IV.int sh),.row 3 c.2.1.length]),(3,.row 75 3 cT c.2.1)],4⟩) (fun c => (c.1 : Int) ≤ n0 ∧ repE txnE c.1 r0 = (c.2.1,c.2.2)) (fun c => n0.toNat - c.1) (0,[],r0) ⟨hb0.1,rfl⟩ (Shift.sub [(0,0),(1,1),(2,2),(3,3)] rfl (SubE.cons rfl (SLe.im (ILe.int (by simp))) SubE.a) (SubH.cons rfl rfl (ObLe.blk SLes.a) (SubH.cons rfl rfl (ObLe.blk SLes.a) (SubH.cons rfl rfl (ObLe.blk SLes.a) (SubH.cons rfl rfl (ObLe.row rfl) (SubH.nil)))))) ?_
 rintro ⟨k,l,r⟩ ⟨hk,hr⟩
 simp only at hk hr
 have hll : l.length = k := by have := jO txnE k r0;rw [hr] at this;exact this
 (refine zR ?_;(iterate 2 refine sA ?_);refine zN ?_)
 refine zC (fun h => ?_) (fun h => ?_)
 ·refine zS ?_
  have hlt : (k : Int) < n0 := by simp at h;omega
  refine zB ?_
  (refine zR ?_;refine sA ?_;refine zN ?_)
  (refine zR ?_;refine sA ?_;refine ALK.e (o5 [1] (oE r) EvsS.a rfl rfl rfl HIn.a) rfl rfl ?_;refine sA ?_;refine zN ?_)
  refine WP.shift (Shift.row0In 4 0 3 1 cI (fun _ => rfl) rfl rfl rfl) ?_
  have hc1 := uc r
  unfold IsB at hc1
  obtain ⟨c1,hc1e⟩ : ∃ n,n = (byteE r).1 := ⟨_,rfl⟩
  obtain ⟨q1,hq1e⟩ : ∃ r',r' = (byteE r).2 := ⟨_,rfl⟩
  rw [← hc1e] at hc1
  rw [← hc1e,← hq1e]
  refine zB ?_
  refine WP.loop (fun c : Nat × List Int × List UInt8 => ⟨[(8,.im (IV.int (c1 - (c.1 : Int)))),(7,.off 4 0),(6,.im (IV.int (n0 - (k : Int)))),(0,.im (IV.str b)),(2,.off 0 0),(3,.im (IV.bool false)),(4,.off 1 0),(5,.off 2 0)],[(0,.blk 29 [.im (IV.int 0),.im (IV.val (.slice none 0 0))]),(1,eyeB c.2.2),(2,.blk 29 [.im (IV.int sh),.row 3 l.length]),(3,.row 75 3 cT l),(4,.blk 75 [.row 5 c.2.1.length,.im (IV.val (.slice none 0 0)),.im (IV.val (.slice none 0 0))]),(5,.row 3 1 cI c.2.1)],6⟩) (fun c => (c.1 : Int) ≤ c1 ∧ repE byteE c.1 q1 = (c.2.1,c.2.2)) (fun c => (c1).toNat - c.1) (0,[],q1) ⟨hc1.1,rfl⟩ (Shift.sub [(0,0),(1,1),(2,2),(3,3),(4,4),(5,5)] rfl (SubE.cons rfl (SLe.im (ILe.int (by simp))) SubE.a) (SubH.cons rfl rfl (ObLe.blk SLes.a) (SubH.cons rfl rfl (ObLe.blk SLes.a) (SubH.cons rfl rfl (ObLe.blk SLes.a) (SubH.cons rfl rfl (ObLe.row rfl) (SubH.cons rfl rfl (ObLe.blk SLes.a) (SubH.cons rfl rfl (ObLe.row rfl) (SubH.nil)))))))) ?_
  rintro ⟨j,m,r2⟩ ⟨hj,hm⟩
  simp only at hj hm
  have hml : m.length = j := by have := jO byteE j q1;rw [hm] at this;exact this
  (refine zR ?_;(iterate 2 refine sA ?_);refine zN ?_)
  refine zC (fun h => ?_) (fun h => ?_)
  ·refine zS ?_
   have hlt2 : (j : Int) < c1 := by simp at h;omega
   refine zB ?_
   (repeat apply WP.seq)
   refine WP.to ⟨[(8,.im (IV.int (c1 - (j : Int)))),(7,.off 4 0),(6,.im (IV.int (n0 - (k : Int)))),(0,.im (IV.str b)),(2,.off 0 0),(3,.im (IV.bool false)),(4,.off 1 0),(5,.off 2 0)],[(0,.blk 29 [.im (IV.int 0),.im (IV.val (.slice none 0 0))]),(1,eyeB (byteE r2).2),(2,.blk 29 [.im (IV.int sh),.row 3 l.length]),(3,.row 75 3 cT l),(4,.blk 75 [.row 5 (m ++ [(byteE r2).1]).length,.im (IV.val (.slice none 0 0)),.im (IV.val (.slice none 0 0))]),(5,.row 3 1 cI (m ++ [(byteE r2).1]))],6⟩ ?_ ?_
   ·refine WP.anyLA 8 rfl ?_
    refine LA.s2 (i := 0) (j := 2) (by kernel_rfl) rfl rfl (Step1.n (.inl rfl) rfl (ou (o := 0) rfl (Ev.base rfl))) rfl rfl (Step1.n (.inl rfl) rfl (o4 (Ev.base rfl))) ?_ ?_
    ·refine LA.s2 (i := 1) (j := 2) (by kernel_rfl) rfl rfl (Step1.r (.inl rfl) rfl (oK rfl (Ev.base rfl) rfl rfl)) rfl rfl (Step1.n (.inl rfl) rfl (o4 (Ev.base rfl))) ?_ ?_
     ·refine LA.s1 (i := 2) (by kernel_rfl) rfl rfl (Step1.n (.inl rfl) rfl (o4 (Ev.base rfl))) ?_
      refine LA.s1 (i := 3) (by kernel_rfl) rfl rfl (Step1.e (.inl rfl) rfl (Nat.le_of_ble_eq_true rfl) (o5 [1] (oE r2) EvsS.a rfl rfl rfl HIn.a)) ?_
      refine LA.s1 (i := 4) (by kernel_rfl) rfl rfl (Step1.n (.inl rfl) rfl (o6 rfl rfl rfl rfl rfl rfl (Pc rfl (Ev.base rfl) Cs.a rfl rfl Parts.nil) rfl)) ?_
      refine LA.s1 (i := 5) (by kernel_rfl) rfl rfl (Step1.e (.inl rfl) rfl (Nat.le_of_ble_eq_true rfl) (o8 (b := 8) [(byteE r2).1] rfl rfl rfl rfl rfl (Ev.base rfl) (Ev.base rfl) rfl rfl (by simp;omega) rfl)) ?_
      refine LA.s1 (i := 6) (by kernel_rfl) rfl rfl (Step1.n (.inl rfl) rfl (ou (o := 0) rfl (Ev.base rfl))) ?_
      refine LA.s1 (i := 7) (by kernel_rfl) rfl rfl (Step1.e (.inl rfl) rfl (Nat.le_of_ble_eq_true rfl) (oz rfl (Ev.base rfl) (Ev.base rfl) Cs.a rfl rfl rfl)) ?_
      exact LA.done (by kernel_rfl) (⟨rfl,Shift.sub [(0,0),(1,1),(2,2),(3,3),(4,4),(5,6)] rfl SubE.a (SubH.cons rfl rfl (ObLe.blk SLes.a) (SubH.cons rfl rfl (ObLe.blk SLes.a) (SubH.cons rfl rfl (ObLe.blk SLes.a) (SubH.cons rfl rfl (ObLe.row rfl) (SubH.cons rfl rfl (ObLe.blk (SLes.cons (SLe.row rfl (by simp)) SLes.a)) (SubH.cons rfl rfl (ObLe.row rfl) (SubH.nil)))))))⟩)
     ·refine LA.s2 (i := 1) (j := 3) (by kernel_rfl) rfl rfl (Step1.r (.inl rfl) rfl (oK rfl (Ev.base rfl) rfl rfl)) rfl rfl (Step1.e (.inl rfl) rfl (Nat.le_of_ble_eq_true rfl) (o5 [1] (oE r2) EvsS.a rfl rfl rfl HIn.a)) ?_ ?_
      ·refine LA.s1 (i := 3) (by kernel_rfl) rfl rfl (Step1.e (.inl rfl) rfl (Nat.le_of_ble_eq_true rfl) (o5 [1] (oE r2) EvsS.a rfl rfl rfl HIn.a)) ?_
       refine LA.s1 (i := 4) (by kernel_rfl) rfl rfl (Step1.n (.inl rfl) rfl (o6 rfl rfl rfl rfl rfl rfl (Pc rfl (Ev.base rfl) Cs.a rfl rfl Parts.nil) rfl)) ?_
       refine LA.s1 (i := 5) (by kernel_rfl) rfl rfl (Step1.e (.inl rfl) rfl (Nat.le_of_ble_eq_true rfl) (o8 (b := 8) [(byteE r2).1] rfl rfl rfl rfl rfl (Ev.base rfl) (Ev.base rfl) rfl rfl (by simp;omega) rfl)) ?_
       refine LA.s1 (i := 6) (by kernel_rfl) rfl rfl (Step1.n (.inl rfl) rfl (ou (o := 0) rfl (Ev.base rfl))) ?_
       refine LA.s1 (i := 7) (by kernel_rfl) rfl rfl (Step1.e (.inl rfl) rfl (Nat.le_of_ble_eq_true rfl) (oz rfl (Ev.base rfl) (Ev.base rfl) Cs.a rfl rfl rfl)) ?_
       exact LA.done (by kernel_rfl) (⟨rfl,Shift.sub [(0,0),(1,1),(2,2),(3,3),(4,4),(5,6)] rfl SubE.a (SubH.cons rfl rfl (ObLe.blk SLes.a) (SubH.cons rfl rfl (ObLe.blk SLes.a) (SubH.cons rfl rfl (ObLe.blk SLes.a) (SubH.cons rfl rfl (ObLe.row rfl) (SubH.cons rfl rfl (ObLe.blk (SLes.cons (SLe.row rfl (by simp)) SLes.a)) (SubH.cons rfl rfl (ObLe.row rfl) (SubH.nil)))))))⟩)
      ·refine LA.s2 (i := 1) (j := 4) (by kernel_rfl) rfl rfl (Step1.r (.inl rfl) rfl (oK rfl (Ev.base rfl) rfl rfl)) rfl rfl (Step1.n (.inl rfl) rfl (o6 rfl rfl rfl rfl rfl rfl (Pc rfl (Ev.base rfl) Cs.a rfl rfl Parts.nil) rfl)) ?_ ?_
       ·refine LA.s1 (i := 4) (by kernel_rfl) rfl rfl (Step1.n (.inl rfl) rfl (o6 rfl rfl rfl rfl rfl rfl (Pc rfl (Ev.base rfl) Cs.a rfl rfl Parts.nil) rfl)) ?_
        refine LA.s1 (i := 5) (by kernel_rfl) rfl rfl (Step1.e (.inl rfl) rfl (Nat.le_of_ble_eq_true rfl) (o8 (b := 8) [(byteE r2).1] rfl rfl rfl rfl rfl (Ev.base rfl) (Ev.base rfl) rfl rfl (by simp;omega) rfl)) ?_
        refine LA.s1 (i := 6) (by kernel_rfl) rfl rfl (Step1.n (.inl rfl) rfl (ou (o := 0) rfl (Ev.base rfl))) ?_
        refine LA.s1 (i := 7) (by kernel_rfl) rfl rfl (Step1.e (.inl rfl) rfl (Nat.le_of_ble_eq_true rfl) (oz rfl (Ev.base rfl) (Ev.base rfl) Cs.a rfl rfl rfl)) ?_
        exact LA.done (by kernel_rfl) (⟨rfl,Shift.sub [(0,0),(1,1),(2,2),(3,3),(4,4),(5,6)] rfl SubE.a (SubH.cons rfl rfl (ObLe.blk SLes.a) (SubH.cons rfl rfl (ObLe.blk SLes.a) (SubH.cons rfl rfl (ObLe.blk SLes.a) (SubH.cons rfl rfl (ObLe.row rfl) (SubH.cons rfl rfl (ObLe.blk (SLes.cons (SLe.row rfl (by simp)) SLes.a)) (SubH.cons rfl rfl (ObLe.row rfl) (SubH.nil)))))))⟩)
       ·refine LA.s1 (i := 1) (by kernel_rfl) rfl rfl (Step1.r (.inl rfl) rfl (oK rfl (Ev.base rfl) rfl rfl)) ?_
        refine LA.s1 (i := 5) (by kernel_rfl) rfl rfl (Step1.e (.inl rfl) rfl (Nat.le_of_ble_eq_true rfl) (o8 (b := 8) [(byteE r2).1] rfl rfl rfl rfl rfl (Ev.base rfl) (Ev.base rfl) rfl rfl (by simp;omega) rfl)) ?_
        refine LA.s1 (i := 6) (by kernel_rfl) rfl rfl (Step1.n (.inl rfl) rfl (ou (o := 0) rfl (Ev.base rfl))) ?_
        refine LA.s1 (i := 7) (by kernel_rfl) rfl rfl (Step1.e (.inl rfl) rfl (Nat.le_of_ble_eq_true rfl) (oz rfl (Ev.base rfl) (Ev.base rfl) Cs.a rfl rfl rfl)) ?_
        exact LA.done (by kernel_rfl) (⟨rfl,Shift.sub [(0,0),(1,1),(2,2),(3,3),(4,4),(5,6)] rfl SubE.a (SubH.cons rfl rfl (ObLe.blk SLes.a) (SubH.cons rfl rfl (ObLe.blk SLes.a) (SubH.cons rfl rfl (ObLe.blk SLes.a) (SubH.cons rfl rfl (ObLe.row rfl) (SubH.cons rfl rfl (ObLe.blk (SLes.cons (SLe.row rfl (by simp)) SLes.a)) (SubH.cons rfl rfl (ObLe.row rfl) (SubH.nil)))))))⟩)
    ·refine LA.s2 (i := 0) (j := 3) (by kernel_rfl) rfl rfl (Step1.n (.inl rfl) rfl (ou (o := 0) rfl (Ev.base rfl))) rfl rfl (Step1.e (.inl rfl) rfl (Nat.le_of_ble_eq_true rfl) (o5 [1] (oE r2) EvsS.a rfl rfl rfl HIn.a)) ?_ ?_
     ·refine LA.s2 (i := 1) (j := 3) (by kernel_rfl) rfl rfl (Step1.r (.inl rfl) rfl (oK rfl (Ev.base rfl) rfl rfl)) rfl rfl (Step1.e (.inl rfl) rfl (Nat.le_of_ble_eq_true rfl) (o5 [1] (oE r2) EvsS.a rfl rfl rfl HIn.a)) ?_ ?_
      ·refine LA.s1 (i := 3) (by kernel_rfl) rfl rfl (Step1.e (.inl rfl) rfl (Nat.le_of_ble_eq_true rfl) (o5 [1] (oE r2) EvsS.a rfl rfl rfl HIn.a)) ?_
       refine LA.s1 (i := 4) (by kernel_rfl) rfl rfl (Step1.n (.inl rfl) rfl (o6 rfl rfl rfl rfl rfl rfl (Pc rfl (Ev.base rfl) Cs.a rfl rfl Parts.nil) rfl)) ?_
       refine LA.s1 (i := 5) (by kernel_rfl) rfl rfl (Step1.e (.inl rfl) rfl (Nat.le_of_ble_eq_true rfl) (o8 (b := 8) [(byteE r2).1] rfl rfl rfl rfl rfl (Ev.base rfl) (Ev.base rfl) rfl rfl (by simp;omega) rfl)) ?_
       refine LA.s1 (i := 6) (by kernel_rfl) rfl rfl (Step1.n (.inl rfl) rfl (ou (o := 0) rfl (Ev.base rfl))) ?_
       refine LA.s1 (i := 7) (by kernel_rfl) rfl rfl (Step1.e (.inl rfl) rfl (Nat.le_of_ble_eq_true rfl) (oz rfl (Ev.base rfl) (Ev.base rfl) Cs.a rfl rfl rfl)) ?_
       exact LA.done (by kernel_rfl) (⟨rfl,Shift.sub [(0,0),(1,1),(2,2),(3,3),(4,4),(5,6)] rfl SubE.a (SubH.cons rfl rfl (ObLe.blk SLes.a) (SubH.cons rfl rfl (ObLe.blk SLes.a) (SubH.cons rfl rfl (ObLe.blk SLes.a) (SubH.cons rfl rfl (ObLe.row rfl) (SubH.cons rfl rfl (ObLe.blk (SLes.cons (SLe.row rfl (by simp)) SLes.a)) (SubH.cons rfl rfl (ObLe.row rfl) (SubH.nil)))))))⟩)
      ·refine LA.s2 (i := 1) (j := 4) (by kernel_rfl) rfl rfl (Step1.r (.inl rfl) rfl (oK rfl (Ev.base rfl) rfl rfl)) rfl rfl (Step1.n (.inl rfl) rfl (o6 rfl rfl rfl rfl rfl rfl (Pc rfl (Ev.base rfl) Cs.a rfl rfl Parts.nil) rfl)) ?_ ?_
       ·refine LA.s1 (i := 4) (by kernel_rfl) rfl rfl (Step1.n (.inl rfl) rfl (o6 rfl rfl rfl rfl rfl rfl (Pc rfl (Ev.base rfl) Cs.a rfl rfl Parts.nil) rfl)) ?_
        refine LA.s1 (i := 5) (by kernel_rfl) rfl rfl (Step1.e (.inl rfl) rfl (Nat.le_of_ble_eq_true rfl) (o8 (b := 8) [(byteE r2).1] rfl rfl rfl rfl rfl (Ev.base rfl) (Ev.base rfl) rfl rfl (by simp;omega) rfl)) ?_
        refine LA.s1 (i := 6) (by kernel_rfl) rfl rfl (Step1.n (.inl rfl) rfl (ou (o := 0) rfl (Ev.base rfl))) ?_
        refine LA.s1 (i := 7) (by kernel_rfl) rfl rfl (Step1.e (.inl rfl) rfl (Nat.le_of_ble_eq_true rfl) (oz rfl (Ev.base rfl) (Ev.base rfl) Cs.a rfl rfl rfl)) ?_
        exact LA.done (by kernel_rfl) (⟨rfl,Shift.sub [(0,0),(1,1),(2,2),(3,3),(4,4),(5,6)] rfl SubE.a (SubH.cons rfl rfl (ObLe.blk SLes.a) (SubH.cons rfl rfl (ObLe.blk SLes.a) (SubH.cons rfl rfl (ObLe.blk SLes.a) (SubH.cons rfl rfl (ObLe.row rfl) (SubH.cons rfl rfl (ObLe.blk (SLes.cons (SLe.row rfl (by simp)) SLes.a)) (SubH.cons rfl rfl (ObLe.row rfl) (SubH.nil)))))))⟩)
       ·refine LA.s1 (i := 1) (by kernel_rfl) rfl rfl (Step1.r (.inl rfl) rfl (oK rfl (Ev.base rfl) rfl rfl)) ?_
        refine LA.s1 (i := 5) (by kernel_rfl) rfl rfl (Step1.e (.inl rfl) rfl (Nat.le_of_ble_eq_true rfl) (o8 (b := 8) [(byteE r2).1] rfl rfl rfl rfl rfl (Ev.base rfl) (Ev.base rfl) rfl rfl (by simp;omega) rfl)) ?_
        refine LA.s1 (i := 6) (by kernel_rfl) rfl rfl (Step1.n (.inl rfl) rfl (ou (o := 0) rfl (Ev.base rfl))) ?_
        refine LA.s1 (i := 7) (by kernel_rfl) rfl rfl (Step1.e (.inl rfl) rfl (Nat.le_of_ble_eq_true rfl) (oz rfl (Ev.base rfl) (Ev.base rfl) Cs.a rfl rfl rfl)) ?_
        exact LA.done (by kernel_rfl) (⟨rfl,Shift.sub [(0,0),(1,1),(2,2),(3,3),(4,4),(5,6)] rfl SubE.a (SubH.cons rfl rfl (ObLe.blk SLes.a) (SubH.cons rfl rfl (ObLe.blk SLes.a) (SubH.cons rfl rfl (ObLe.blk SLes.a) (SubH.cons rfl rfl (ObLe.row rfl) (SubH.cons rfl rfl (ObLe.blk (SLes.cons (SLe.row rfl (by simp)) SLes.a)) (SubH.cons rfl rfl (ObLe.row rfl) (SubH.nil)))))))⟩)
     ·refine LA.s2 (i := 0) (j := 4) (by kernel_rfl) rfl rfl (Step1.n (.inl rfl) rfl (ou (o := 0) rfl (Ev.base rfl))) rfl rfl (Step1.n (.inl rfl) rfl (o6 rfl rfl rfl rfl rfl rfl (Pc rfl (Ev.base rfl) Cs.a rfl rfl Parts.nil) rfl)) ?_ ?_
      ·refine LA.s2 (i := 1) (j := 4) (by kernel_rfl) rfl rfl (Step1.r (.inl rfl) rfl (oK rfl (Ev.base rfl) rfl rfl)) rfl rfl (Step1.n (.inl rfl) rfl (o6 rfl rfl rfl rfl rfl rfl (Pc rfl (Ev.base rfl) Cs.a rfl rfl Parts.nil) rfl)) ?_ ?_
       ·refine LA.s1 (i := 4) (by kernel_rfl) rfl rfl (Step1.n (.inl rfl) rfl (o6 rfl rfl rfl rfl rfl rfl (Pc rfl (Ev.base rfl) Cs.a rfl rfl Parts.nil) rfl)) ?_
        refine LA.s1 (i := 5) (by kernel_rfl) rfl rfl (Step1.e (.inl rfl) rfl (Nat.le_of_ble_eq_true rfl) (o8 (b := 8) [(byteE r2).1] rfl rfl rfl rfl rfl (Ev.base rfl) (Ev.base rfl) rfl rfl (by simp;omega) rfl)) ?_
        refine LA.s1 (i := 6) (by kernel_rfl) rfl rfl (Step1.n (.inl rfl) rfl (ou (o := 0) rfl (Ev.base rfl))) ?_
        refine LA.s1 (i := 7) (by kernel_rfl) rfl rfl (Step1.e (.inl rfl) rfl (Nat.le_of_ble_eq_true rfl) (oz rfl (Ev.base rfl) (Ev.base rfl) Cs.a rfl rfl rfl)) ?_
        exact LA.done (by kernel_rfl) (⟨rfl,Shift.sub [(0,0),(1,1),(2,2),(3,3),(4,4),(5,6)] rfl SubE.a (SubH.cons rfl rfl (ObLe.blk SLes.a) (SubH.cons rfl rfl (ObLe.blk SLes.a) (SubH.cons rfl rfl (ObLe.blk SLes.a) (SubH.cons rfl rfl (ObLe.row rfl) (SubH.cons rfl rfl (ObLe.blk (SLes.cons (SLe.row rfl (by simp)) SLes.a)) (SubH.cons rfl rfl (ObLe.row rfl) (SubH.nil)))))))⟩)
       ·refine LA.s1 (i := 1) (by kernel_rfl) rfl rfl (Step1.r (.inl rfl) rfl (oK rfl (Ev.base rfl) rfl rfl)) ?_
        refine LA.s1 (i := 5) (by kernel_rfl) rfl rfl (Step1.e (.inl rfl) rfl (Nat.le_of_ble_eq_true rfl) (o8 (b := 8) [(byteE r2).1] rfl rfl rfl rfl rfl (Ev.base rfl) (Ev.base rfl) rfl rfl (by simp;omega) rfl)) ?_
        refine LA.s1 (i := 6) (by kernel_rfl) rfl rfl (Step1.n (.inl rfl) rfl (ou (o := 0) rfl (Ev.base rfl))) ?_
        refine LA.s1 (i := 7) (by kernel_rfl) rfl rfl (Step1.e (.inl rfl) rfl (Nat.le_of_ble_eq_true rfl) (oz rfl (Ev.base rfl) (Ev.base rfl) Cs.a rfl rfl rfl)) ?_
        exact LA.done (by kernel_rfl) (⟨rfl,Shift.sub [(0,0),(1,1),(2,2),(3,3),(4,4),(5,6)] rfl SubE.a (SubH.cons rfl rfl (ObLe.blk SLes.a) (SubH.cons rfl rfl (ObLe.blk SLes.a) (SubH.cons rfl rfl (ObLe.blk SLes.a) (SubH.cons rfl rfl (ObLe.row rfl) (SubH.cons rfl rfl (ObLe.blk (SLes.cons (SLe.row rfl (by simp)) SLes.a)) (SubH.cons rfl rfl (ObLe.row rfl) (SubH.nil)))))))⟩)
      ·refine LA.s1 (i := 0) (by kernel_rfl) rfl rfl (Step1.n (.inl rfl) rfl (ou (o := 0) rfl (Ev.base rfl))) ?_
       refine LA.s1 (i := 1) (by kernel_rfl) rfl rfl (Step1.r (.inl rfl) rfl (oK rfl (Ev.base rfl) rfl rfl)) ?_
       refine LA.s1 (i := 5) (by kernel_rfl) rfl rfl (Step1.e (.inl rfl) rfl (Nat.le_of_ble_eq_true rfl) (o8 (b := 8) [(byteE r2).1] rfl rfl rfl rfl rfl (Ev.base rfl) (Ev.base rfl) rfl rfl (by simp;omega) rfl)) ?_
       refine LA.s1 (i := 6) (by kernel_rfl) rfl rfl (Step1.n (.inl rfl) rfl (ou (o := 0) rfl (Ev.base rfl))) ?_
       refine LA.s1 (i := 7) (by kernel_rfl) rfl rfl (Step1.e (.inl rfl) rfl (Nat.le_of_ble_eq_true rfl) (oz rfl (Ev.base rfl) (Ev.base rfl) Cs.a rfl rfl rfl)) ?_
       exact LA.done (by kernel_rfl) (⟨rfl,Shift.sub [(0,0),(1,1),(2,2),(3,3),(4,4),(5,6)] rfl SubE.a (SubH.cons rfl rfl (ObLe.blk SLes.a) (SubH.cons rfl rfl (ObLe.blk SLes.a) (SubH.cons rfl rfl (ObLe.blk SLes.a) (SubH.cons rfl rfl (ObLe.row rfl) (SubH.cons rfl rfl (ObLe.blk (SLes.cons (SLe.row rfl (by simp)) SLes.a)) (SubH.cons rfl rfl (ObLe.row rfl) (SubH.nil)))))))⟩)
   show WP _ _ _ _ _ _
   (refine zR ?_;(iterate 3 refine sA ?_);refine zN ?_)
   show ∃ _,_ ∧ _ ∧ _
   exact ⟨(j + 1,m ++ [(byteE r2).1],(byteE r2).2),⟨by simp only;omega,by rw [qW,hm]⟩,by simp only;omega,Shift.sub [(0,0),(1,1),(2,2),(3,3),(4,4),(5,5)] rfl (SubE.cons rfl (SLe.im (ILe.int (by simp only [];omega))) SubE.a) (SubH.cons rfl rfl (ObLe.blk SLes.a) (SubH.cons rfl rfl (ObLe.blk SLes.a) (SubH.cons rfl rfl (ObLe.blk SLes.a) (SubH.cons rfl rfl (ObLe.row rfl) (SubH.cons rfl rfl (ObLe.blk SLes.a) (SubH.cons rfl rfl (ObLe.row rfl) (SubH.nil)))))))⟩
  ·refine zE ?_
   have hje : j = c1.toNat := by simp at h;omega
   subst hje
   have hL1 : listE byteE r = (m,r2) := by rw [listE_cut,← hc1e,← hq1e];exact hm
   clear hq1e hc1e
   refine WP.shift (Shift.frzIn 4 0 rfl rfl rfl rfl) ?_
   (refine zR ?_;refine sA ?_;refine ALK.e (o5 [1] (oE r2) EvsS.a rfl rfl rfl HIn.a) rfl rfl ?_;refine sA ?_;refine zN ?_)
   refine WP.shift (Shift.row0In 4 1 83 5 cG (fun _ => rfl) rfl rfl rfl) ?_
   have hc2 := uc r2
   unfold IsB at hc2
   obtain ⟨c2,hc2e⟩ : ∃ n,n = (byteE r2).1 := ⟨_,rfl⟩
   obtain ⟨q2,hq2e⟩ : ∃ r',r' = (byteE r2).2 := ⟨_,rfl⟩
   rw [← hc2e] at hc2
   rw [← hc2e,← hq2e]
   refine zB ?_
   refine WP.loop (fun c : Nat × List Guard × List UInt8 => ⟨[(9,.im (IV.int (c2 - (c.1 : Int)))),(7,.off 4 0),(6,.im (IV.int (n0 - (k : Int)))),(0,.im (IV.str b)),(2,.off 0 0),(3,.im (IV.bool false)),(4,.off 1 0),(5,.off 2 0)],[(0,.blk 29 [.im (IV.int 0),.im (IV.val (.slice none 0 0))]),(1,eyeB c.2.2),(2,.blk 29 [.im (IV.int sh),.row 3 l.length]),(3,.row 75 3 cT l),(4,.blk 75 [.im (intsV m),.row 5 c.2.1.length,.im (IV.val (.slice none 0 0))]),(5,.row 83 5 cG c.2.1)],6⟩) (fun c => (c.1 : Int) ≤ c2 ∧ repE guardE c.1 q2 = (c.2.1,c.2.2)) (fun c => (c2).toNat - c.1) (0,[],q2) ⟨hc2.1,rfl⟩ (Shift.sub [(0,0),(1,1),(2,2),(3,3),(4,4),(5,6)] rfl (SubE.cons rfl (SLe.im (ILe.int (by simp))) SubE.a) (SubH.cons rfl rfl (ObLe.blk SLes.a) (SubH.cons rfl rfl (ObLe.blk SLes.a) (SubH.cons rfl rfl (ObLe.blk SLes.a) (SubH.cons rfl rfl (ObLe.row rfl) (SubH.cons rfl rfl (ObLe.blk SLes.a) (SubH.cons rfl rfl (ObLe.row rfl) (SubH.nil)))))))) ?_
   rintro ⟨j2,gl,r3⟩ ⟨hj2,hm2⟩
   simp only at hj2 hm2
   have hml2 : gl.length = j2 := by have := jO guardE j2 q2;rw [hm2] at this;exact this
   (refine zR ?_;(iterate 2 refine sA ?_);refine zN ?_)
   refine zC (fun h => ?_) (fun h => ?_)
   ·refine zS ?_
    have hlt2 : (j2 : Int) < c2 := by simp at h;omega
    have hg2 : guardE r3 = (⟨(byteE r3).1,(opE (byteE r3).2).1,(opE (opE (byteE r3).2).2).1⟩,(opE (opE (byteE r3).2).2).2) := rfl
    refine zB ?_
    (refine zR ?_;refine sA ?_;refine ALK.e (o5 [1] (oE r3) EvsS.a rfl rfl rfl HIn.a) rfl rfl ?_;(iterate 3 refine sA ?_);refine zN ?_)
    (refine zR ?_;refine sA ?_;refine ALK.e (o5 [1] (ul (byteE r3).2) EvsS.a rfl rfl rfl HIn.a) rfl rfl ?_;refine fd 1 ?_;refine sA ?_;refine zN ?_)
    (refine zR ?_;refine sA ?_;refine ALK.e (o5 [1] (ul (opE (byteE r3).2).2) EvsS.a rfl rfl rfl HIn.a) rfl rfl ?_;refine fd 3 ?_;refine sA ?_;refine zN ?_)
    (refine zR ?_;refine fd 1 ?_;(iterate 2 refine sA ?_);refine ALK.n (o6 rfl rfl rfl rfl rfl rfl (Pc rfl (eB rfl) Cs.a rfl rfl Parts.nil) rfl) rfl ?_;refine ALK.e (o8 (b := 40) [⟨(byteE r3).1,(opE (byteE r3).2).1,(opE (opE (byteE r3).2).2).1⟩] rfl rfl rfl rfl rfl (eB rfl) (eB rfl) rfl rfl (by simp;omega) rfl) rfl rfl ?_;refine fd 1 ?_;refine sA ?_;refine zN ?_)
    (refine zR ?_;(iterate 3 refine sA ?_);refine zN ?_)
    show ∃ _,_ ∧ _ ∧ _
    exact ⟨(j2 + 1,gl ++ [(guardE r3).1],(guardE r3).2),⟨by simp only;omega,by rw [qW,hm2]⟩,by simp only;omega,Shift.sub [(0,0),(1,1),(2,2),(3,3),(4,4),(5,7)] rfl (SubE.cons rfl (SLe.im (ILe.int (by simp only [];omega))) SubE.a) (SubH.cons rfl rfl (ObLe.blk SLes.a) (SubH.cons rfl rfl (ObLe.blk SLes.a) (SubH.cons rfl rfl (ObLe.blk SLes.a) (SubH.cons rfl rfl (ObLe.row rfl) (SubH.cons rfl rfl (ObLe.blk SLes.a) (SubH.cons rfl rfl (ObLe.row rfl) (SubH.nil)))))))⟩
   ·refine zE ?_
    have hje : j2 = c2.toNat := by simp at h;omega
    subst hje
    have hL2 : listE guardE r2 = (gl,r3) := by rw [listE_cut,← hc2e,← hq2e];exact hm2
    clear hq2e hc2e
    refine WP.shift (Shift.frzIn 4 1 rfl rfl rfl rfl) ?_
    (refine zR ?_;refine sA ?_;refine ALK.e (o5 [1] (oE r3) EvsS.a rfl rfl rfl HIn.a) rfl rfl ?_;refine sA ?_;refine zN ?_)
    refine WP.shift (Shift.row0In 4 2 90 6 cS (fun _ => rfl) rfl rfl rfl) ?_
    have hc3 := uc r3
    unfold IsB at hc3
    obtain ⟨c3,hc3e⟩ : ∃ n,n = (byteE r3).1 := ⟨_,rfl⟩
    obtain ⟨q3,hq3e⟩ : ∃ r',r' = (byteE r3).2 := ⟨_,rfl⟩
    rw [← hc3e] at hc3
    rw [← hc3e,← hq3e]
    refine zB ?_
    refine WP.loop (fun c : Nat × List SetT × List UInt8 => ⟨[(11,.im (IV.int (c3 - (c.1 : Int)))),(7,.off 4 0),(6,.im (IV.int (n0 - (k : Int)))),(0,.im (IV.str b)),(2,.off 0 0),(3,.im (IV.bool false)),(4,.off 1 0),(5,.off 2 0)],[(0,.blk 29 [.im (IV.int 0),.im (IV.val (.slice none 0 0))]),(1,eyeB c.2.2),(2,.blk 29 [.im (IV.int sh),.row 3 l.length]),(3,.row 75 3 cT l),(4,.blk 75 [.im (intsV m),.im (IV.view 5 cG gl),.row 5 c.2.1.length]),(5,.row 90 6 cS c.2.1)],6⟩) (fun c => (c.1 : Int) ≤ c3 ∧ repE setE c.1 q3 = (c.2.1,c.2.2)) (fun c => (c3).toNat - c.1) (0,[],q3) ⟨hc3.1,rfl⟩ (Shift.sub [(0,0),(1,1),(2,2),(3,3),(4,4),(5,6)] rfl (SubE.cons rfl (SLe.im (ILe.int (by simp))) SubE.a) (SubH.cons rfl rfl (ObLe.blk SLes.a) (SubH.cons rfl rfl (ObLe.blk SLes.a) (SubH.cons rfl rfl (ObLe.blk SLes.a) (SubH.cons rfl rfl (ObLe.row rfl) (SubH.cons rfl rfl (ObLe.blk SLes.a) (SubH.cons rfl rfl (ObLe.row rfl) (SubH.nil)))))))) ?_
    rintro ⟨j3,sl,r4⟩ ⟨hj3,hm3⟩
    simp only at hj3 hm3
    have hml3 : sl.length = j3 := by have := jO setE j3 q3;rw [hm3] at this;exact this
    (refine zR ?_;(iterate 2 refine sA ?_);refine zN ?_)
    refine zC (fun h => ?_) (fun h => ?_)
    ·refine zS ?_
     have hlt3 : (j3 : Int) < c3 := by simp at h;omega
     refine zB ?_
     (refine zR ?_;refine sA ?_;refine ALK.e (o5 [1] (oE r4) EvsS.a rfl rfl rfl HIn.a) rfl rfl ?_;(iterate 3 refine sA ?_);refine zN ?_)
     (refine zR ?_;refine sA ?_;refine ALK.e (o5 [1] (oE (byteE r4).2) EvsS.a rfl rfl rfl HIn.a) rfl rfl ?_;refine fd 1 ?_;refine sA ?_;refine zN ?_)
     (refine zR ?_;refine sA ?_;refine ALK.e (o5 [1] (ul (byteE (byteE r4).2).2) EvsS.a rfl rfl rfl HIn.a) rfl rfl ?_;refine fd 2 ?_;refine sA ?_;refine zN ?_)
     (refine zR ?_;refine sA ?_;refine ALK.e (o5 [1] (ul (opE (byteE (byteE r4).2).2).2) EvsS.a rfl rfl rfl HIn.a) rfl rfl ?_;refine fd 4 ?_;refine sA ?_;refine zN ?_)
     (refine zR ?_;refine fd 2 ?_;(iterate 2 refine sA ?_);refine ALK.n (o6 rfl rfl rfl rfl rfl rfl (Pc rfl (eB rfl) Cs.a rfl rfl Parts.nil) rfl) rfl ?_;refine ALK.e (o8 (b := 48) [⟨(byteE r4).1,(byteE (byteE r4).2).1,(opE (byteE (byteE r4).2).2).1,(opE (opE (byteE (byteE r4).2).2).2).1⟩] rfl rfl rfl rfl rfl (eB rfl) (eB rfl) rfl rfl (by simp;omega) rfl) rfl rfl ?_;refine fd 2 ?_;refine sA ?_;refine zN ?_)
     (refine zR ?_;(iterate 3 refine sA ?_);refine zN ?_)
     show ∃ _,_ ∧ _ ∧ _
     exact ⟨(j3 + 1,sl ++ [(setE r4).1],(setE r4).2),⟨by simp only;omega,by rw [qW,hm3]⟩,by simp only;omega,Shift.sub [(0,0),(1,1),(2,2),(3,3),(4,4),(5,7)] rfl (SubE.cons rfl (SLe.im (ILe.int (by simp only [];omega))) SubE.a) (SubH.cons rfl rfl (ObLe.blk SLes.a) (SubH.cons rfl rfl (ObLe.blk SLes.a) (SubH.cons rfl rfl (ObLe.blk SLes.a) (SubH.cons rfl rfl (ObLe.row rfl) (SubH.cons rfl rfl (ObLe.blk SLes.a) (SubH.cons rfl rfl (ObLe.row rfl) (SubH.nil)))))))⟩
    ·refine zE ?_
     have hje : j3 = c3.toNat := by simp at h;omega
     subst hje
     have hL3 : listE setE r3 = (sl,r4) := by rw [listE_cut,← hc3e,← hq3e];exact hm3
     clear hq3e hc3e
     refine WP.shift (Shift.frzIn 4 2 rfl rfl rfl rfl) ?_
     (refine zR ?_;refine fd 1 ?_;(iterate 2 refine sA ?_);refine ALK.n (o6 rfl rfl rfl rfl rfl rfl (Pc rfl (eB rfl) Cs.a rfl rfl Parts.nil) rfl) rfl ?_;refine ALK.e (o8 (b := 72) [⟨m,gl,sl⟩] rfl rfl rfl rfl rfl (eB rfl) (eB rfl) rfl rfl (by simp;omega) rfl) rfl rfl ?_;refine fd 1 ?_;refine sA ?_;refine zN ?_)
     (refine zR ?_;(iterate 3 refine sA ?_);refine zN ?_)
     show ∃ _,_ ∧ _ ∧ _
     have ht : txnE r = (⟨m,gl,sl⟩,r4) := by
      unfold txnE andE
      rw [hL1]
      simp only
      rw [hL2]
      simp only
      rw [hL3];rfl
     exact ⟨(k + 1,l ++ [⟨m,gl,sl⟩],r4),⟨by simp only;omega,by rw [qW,hr,ht]⟩,by simp only;omega,Shift.sub [(0,0),(1,1),(2,2),(3,6)] rfl (SubE.cons rfl (SLe.im (ILe.int (by simp only [];omega))) SubE.a) (SubH.cons rfl rfl (ObLe.blk SLes.a) (SubH.cons rfl rfl (ObLe.blk SLes.a) (SubH.cons rfl rfl (ObLe.blk SLes.a) (SubH.cons rfl rfl (ObLe.row rfl) (SubH.nil)))))⟩
 ·refine zE ?_
  have hke : k = n0.toNat := by simp at h;omega
  subst hke
  rw [hr] at hq0
  have hq1 : (planE' b).1 = ⟨sh,l⟩ := by rw [hq0]
  have hPD : PlanD ⟨sh,l⟩ := by rw [← hq1];exact ok_plan b
  refine WP.shift (Shift.frzIn 2 1 rfl rfl rfl rfl) ?_
  (refine zR ?_;refine sA ?_;refine ALK.n (o3 (qK ⟨sh,l⟩ (planD_B hPD)) (Evs.cons Ev.a Evs.nil)) rfl ?_;(iterate 2 refine sA ?_);refine gA ?_;refine ALK.g (fun hb => o3 (ref_PlanBytes_fn ⟨sh,l⟩ (by simpa [gd] using hb)) (Evs.cons Ev.a Evs.nil)) rfl rfl rfl ?_;refine gA ?_;refine ALK.g (fun hb => oa (eC rfl hb) (eC rfl hb) rfl) rfl rfl rfl ?_;refine sA ?_;refine zN ?_)
  refine zC (fun h => ?_) (fun h => ?_)
  ·have hf : fromS b = (zeroP,false) := by
    unfold fromS
    rw [hq1,if_neg]
    rintro ⟨h1,h2⟩
    simp [h1,h2] at h
   rw [hf]
   (refine zR ?_;(iterate 3 refine sA ?_);refine zN ?_)
   exact zT Tryz.results16
  ·refine zS ?_
   have hf : fromS b = (⟨sh,l⟩,true) := by
    unfold fromS
    rw [hq1]
    have h1 : checkPlan ⟨sh,l⟩ = 0 := by
     by_cases h1 : checkPlan ⟨sh,l⟩ = 0
     ·exact h1
     ·simp [h1] at h
    rw [if_pos ⟨h1,by simpa [h1] using h⟩]
   rw [hf]
   (refine zR ?_;(iterate 3 refine sA ?_);refine zN ?_)
   exact zT Tryz.results16
end Go.Proofs.YtjgmbgfcffnanaaGreatDoor
