/- Package desk: put, step, can. Package desk: can. A drawn region one of whose operations panics, whatever has been done of those that it does not wait for. No program. -/
import Derived.Test.YtjgmbgfcffnanaaGreatDoorZ36
set_option maxRecDepth 100000
set_option maxHeartbeats 4000000
namespace Go.Proofs.YtjgmbgfcffnanaaGreatDoor
open Go.RowKit
theorem put_ok (p : Plan) (d : Dk) (a b : Int) (g : Good p d) (hB : TxsB p.txns) (h0 : 0 ≤ a) (h8 : a < 8) :
 FnE CC 54 1 [.off 0 0,.im (IV.int a),.im (IV.int b)] (tabH 40 p d) (.im (IV.str sOk)) (tabH 40 p (putD p d a.toNat b)) 1 [0] := by
 have hlen : d.s.store.length = 8 := g.v.store
 have hbeg : beginE p (d.s.store.set a.toNat b) = 0 := by
  unfold beginE
  rw [if_pos g.v.plan,if_pos (by rw [List.length_set];exact hlen)]
 have hB0 := Begin_fn p (d.s.store.set a.toNat b) hB
 have hbs : begS p (d.s.store.set a.toNat b) = beginS p (d.s.store.set a.toNat b) := if_pos hbeg
 rw [hbs] at hB0
 refine FnE.of_wp _ [(0,0)] Tryz.func54 rfl (by kernel_rfl) Tryz.ntmps54 rfl rfl rfl rfl rfl rfl rfl rfl rfl ?_
 intro F vs hD hvs
 obtain ⟨v0,v1,v2,rfl⟩ := len3 hvs
 show WP _ _ _ _ _ ⟨[(0,.is v0 (.off 0 0)),(1,.im (IV.int a)),(2,.im (IV.int b))],tabH 40 p d,1⟩
 (refine zR ?_;refine sI ?_;refine zN ?_)
 (refine zR ?_;(iterate 2 refine sI ?_);refine ALK.n (o3 (oI 3) (Evs.cons (Ev.of (eB rfl) (ImOf.im (ILe.bool (decide_eq_true h8)))) (Evs.cons (eB rfl) Evs.nil))) rfl ?_;refine zN ?_)
 (refine zR ?_;(iterate 2 refine sI ?_);refine fI 3 ?_;refine fI 0 ?_;refine sI ?_;refine ALK.a (yp (qF d.s.store (by omega)) (Evs.cons Ev.a Evs.nil)) rfl ?_;refine sI ?_;refine zN ?_)
 (refine zR ?_;(iterate 4 refine sI ?_);refine ALK.e (y4 (z := b) rfl rfl (eB rfl) (eB rfl) (yG rfl) rfl rfl (by omega)) rfl rfl ?_;refine zN ?_)
 refine WP.shift (Shift.frzRow 7 rfl rfl) ?_
 (refine zR ?_;(iterate 3 refine sI ?_);refine fI 2 ?_;refine sI ?_;refine zN ?_)
 (refine zR ?_;(iterate 3 refine sI ?_);refine fI 0 ?_;(iterate 2 refine sI ?_);refine ALK.n (o3 hB0 (Evs.cons Ev.a (Evs.cons Ev.a Evs.nil))) rfl ?_;(iterate 4 refine sI ?_);refine fI 3 ?_;refine sI ?_;refine zN ?_)
 (refine zR ?_;refine sI ?_;refine zN ?_)
 exact zT Tryz.results54
theorem put_no (p : Plan) (d : Dk) (a b : Int) (h8 : ¬ a < 8) :
 FnP (chR 3) CC 54 1 [.off 0 0,.im (IV.int a),.im (IV.int b)] (tabH 40 p d) (tabH 40 p d) 1 [0] := by
 refine FnP.of_wp _ [(0,0)] Tryz.func54 rfl (by kernel_rfl) Tryz.ntmps54 rfl rfl rfl rfl rfl rfl rfl rfl ?_
 intro F vs hD hvs
 obtain ⟨v0,v1,v2,rfl⟩ := len3 hvs
 show WP _ _ _ _ _ ⟨[(0,.is v0 (.off 0 0)),(1,.im (IV.int a)),(2,.im (IV.int b))],tabH 40 p d,1⟩
 (refine zR ?_;refine sI ?_;refine zN ?_)
 ((repeat apply WP.seq);apply WP.xreg;refine LX.n (o4 (eB rfl)) rfl ?_;refine LX.n OpN.cm rfl ?_;refine LX.p (og [] (qm 3) (EvsS.cons (Ev.of (eB rfl) (ImOf.im (ILe.bool (decide_eq_false h8)))) (EvsS.cons (eB rfl) EvsS.nil)) rfl rfl rfl HIn.a) ?_)
 exact ⟨rfl,HSb.a,Kept.a⟩
theorem step_ok (p : Plan) (d : Dk) (k n sh : Int) (hB : TxsB p.txns) (h0 : 0 ≤ sh) (h1 : doE p d.s ⟨k,n,sh⟩ = 0) :
 FnE CC 55 1 [.off 0 0,.im (IV.int k),.im (IV.int n),.im (IV.int sh)] (tabH 40 p d) (.im (IV.str sOk)) (tabH 40 p (doD p d ⟨k,n,sh⟩)) 1 [0] := by
 have hd := Do_fn p d.s ⟨k,n,sh⟩ hB
 rw [h1] at hd
 refine FnE.of_wp _ [(0,0)] Tryz.func55 rfl (by kernel_rfl) Tryz.ntmps55 rfl rfl rfl rfl rfl rfl rfl rfl rfl ?_
 intro F vs hD hvs
 obtain ⟨v0,v1,v2,v3,rfl⟩ := len4 hvs
 show WP _ _ _ _ _ ⟨[(0,.is v0 (.off 0 0)),(1,.im (IV.int k)),(2,.im (IV.int n)),(3,.im (IV.int sh))],tabH 40 p d,1⟩
 (refine zR ?_;refine sI ?_;refine zN ?_)
 (refine zR ?_;(iterate 2 refine sI ?_);refine ALK.n (o3 (oI 1) (Evs.cons (Ev.of (eB rfl) (ImOf.im (ILe.bool (decide_eq_true h0)))) (Evs.cons (eB rfl) Evs.nil))) rfl ?_;refine zN ?_)
 (refine zW ?_;(iterate 2 refine sI ?_);refine fI 0 ?_;(iterate 3 refine sI ?_);refine fI 3 ?_;(iterate 4 refine sI ?_);refine sA ?_;refine ALK.n (o3 hd (Evs.cons Ev.a (Evs.cons Ev.a (Evs.cons Ev.a Evs.nil)))) rfl ?_;(iterate 6 refine sI ?_);refine zD ?_)
 (refine zR ?_;(iterate 3 refine sI ?_);refine ALK.n (o3 (oI 0) (Evs.cons Ev.a (Evs.cons Ev.a Evs.nil))) rfl ?_;refine zN ?_)
 (refine zR ?_;(iterate 3 refine sI ?_);refine fI 3 ?_;refine sI ?_;refine zN ?_)
 (refine zR ?_;refine sI ?_;refine zN ?_)
 exact zT Tryz.results55
theorem step_bad (p : Plan) (d : Dk) (k n sh : Int) (h0 : ¬ 0 ≤ sh) :
 FnP (chR 1) CC 55 1 [.off 0 0,.im (IV.int k),.im (IV.int n),.im (IV.int sh)] (tabH 40 p d) (tabH 40 p d) 1 [0] := by
 refine FnP.of_wp _ [(0,0)] Tryz.func55 rfl (by kernel_rfl) Tryz.ntmps55 rfl rfl rfl rfl rfl rfl rfl rfl ?_
 intro F vs hD hvs
 obtain ⟨v0,v1,v2,v3,rfl⟩ := len4 hvs
 show WP _ _ _ _ _ ⟨[(0,.is v0 (.off 0 0)),(1,.im (IV.int k)),(2,.im (IV.int n)),(3,.im (IV.int sh))],tabH 40 p d,1⟩
 (refine zR ?_;refine sI ?_;refine zN ?_)
 ((repeat apply WP.seq);apply WP.xreg;refine LX.n (o4 (eB rfl)) rfl ?_;refine LX.n OpN.cm rfl ?_;refine LX.p (og [] (qm 1) (EvsS.cons (Ev.of (eB rfl) (ImOf.im (ILe.bool (decide_eq_false h0)))) (EvsS.cons (eB rfl) EvsS.nil)) rfl rfl rfl HIn.a) ?_)
 exact ⟨rfl,HSb.a,Kept.a⟩
theorem step_no (p : Plan) (d : Dk) (k n sh : Int) (hB : TxsB p.txns) (h0 : 0 ≤ sh) (h1 : ¬ doE p d.s ⟨k,n,sh⟩ = 0) :
 FnP (chR (doE p d.s ⟨k,n,sh⟩)) CC 55 1 [.off 0 0,.im (IV.int k),.im (IV.int n),.im (IV.int sh)] (tabH 40 p d) (tabH 40 p d) 1 [0] := by
 refine FnP.of_wp _ [(0,0)] Tryz.func55 rfl (by kernel_rfl) Tryz.ntmps55 rfl rfl rfl rfl rfl rfl rfl rfl ?_
 intro F vs hD hvs
 obtain ⟨v0,v1,v2,v3,rfl⟩ := len4 hvs
 show WP _ _ _ _ _ ⟨[(0,.is v0 (.off 0 0)),(1,.im (IV.int k)),(2,.im (IV.int n)),(3,.im (IV.int sh))],tabH 40 p d,1⟩
 (refine zR ?_;refine sI ?_;refine zN ?_)
 (refine zR ?_;(iterate 2 refine sI ?_);refine ALK.n (o3 (oI 1) (Evs.cons (Ev.of (eB rfl) (ImOf.im (ILe.bool (decide_eq_true h0)))) (Evs.cons (eB rfl) Evs.nil))) rfl ?_;refine zN ?_)
 (refine zW ?_;(iterate 2 refine sI ?_);refine fI 0 ?_;(iterate 3 refine sI ?_);refine fI 3 ?_;(iterate 4 refine sI ?_);refine sA ?_;refine ALK.n (o3 (Do_fn p d.s ⟨k,n,sh⟩ hB) (Evs.cons Ev.a (Evs.cons Ev.a (Evs.cons Ev.a Evs.nil)))) rfl ?_;(iterate 6 refine sI ?_);refine zD ?_)
 ((repeat apply WP.seq);apply WP.xreg;refine LX.n (o4 (eB rfl)) rfl ?_;refine LX.n OpN.cm rfl ?_;refine LX.n (o4 (eB rfl)) rfl ?_;refine LX.p (og [] (qm (doE p d.s ⟨k,n,sh⟩)) (EvsS.cons (Ev.of (eB rfl) (ImOf.im (ILe.bool (by simpa using h1)))) (EvsS.cons (eB rfl) EvsS.nil)) rfl rfl rfl HIn.a) ?_)
 exact ⟨rfl,HSb.a,Kept.a⟩
theorem canTo_next' {l : List StepT} {k : Nat} {x : StepT} (h : l[k]? = some x) : (l.take (k + 1)).map stepT = (l.take k).map stepT ++ [stepT x] := by
 rw [oM h,List.map_append];rfl
theorem can_e (p : Plan) (d : Dk) (g : Good p d) (hB : TxsB p.txns) :
 FnE CC 44 1 [.off 0 0] (tabH 40 p d) (.im (IV.str (if overB p d.s then sOver else canT (canL p d.s)))) (tabH 40 p d) 1 [0] := by
 have hl64 := can_len g.v
 refine FnE.of_wp _ [(0,0)] Tryz.func44 rfl (by kernel_rfl) Tryz.ntmps44 rfl rfl rfl rfl rfl rfl rfl rfl rfl ?_
 intro F vs hD hvs
 obtain ⟨v0,rfl⟩ := len1 hvs
 show WP _ _ _ _ _ ⟨[(0,.is v0 (.off 0 0))],tabH 40 p d,1⟩
 (refine zR ?_;refine sI ?_;refine zN ?_)
 (refine zW ?_;(iterate 2 refine sI ?_);refine fI 0 ?_;(iterate 3 refine sI ?_);refine fI 3 ?_;refine sI ?_;refine ALK.n (o3 (Ended_fn p d.s g.v.shp hB) (Evs.cons Ev.a (Evs.cons Ev.a Evs.nil))) rfl ?_;refine zD ?_)
 refine zC (fun h => ?_) (fun h => ?_)
 ·rw [if_pos h]
  (refine zR ?_;refine sI ?_;refine zN ?_)
  exact zT Tryz.results44
 refine zS ?_
 rw [if_neg (by rw [h];simp)]
 clear h
 obtain ⟨l,hl⟩ : ∃ l,l = canL p d.s := ⟨_,rfl⟩
 have hr : ∀ x ∈ l,(x.kind = 1 ∨ x.kind = 2) ∧ 0 ≤ x.txn ∧ x.txn < 8 ∧ 0 ≤ x.shard ∧ x.shard < 4 := fun x hx => can_rng g.v (by rw [← hl];exact hx)
 have hs12 : ∀ x ∈ l,(stepT x).length ≤ 12 := fun x hx => jY g.v (by rw [← hl];exact hx)
 rw [← hl] at hl64
 (refine zR ?_;refine sA ?_;(iterate 2 refine sI ?_);refine zN ?_)
 refine WP.shift (Shift.frzBlk 3 rfl rfl rfl) ?_
 (refine zR ?_;refine sI ?_;refine zN ?_)
 refine WP.shift (Shift.row0 4 9 1 cStr (fun _ => rfl) rfl) ?_
 (refine zW ?_;(iterate 2 refine sI ?_);refine fI 0 ?_;(iterate 3 refine sI ?_);refine fI 3 ?_;refine sI ?_;refine ALK.n (o3 (FnN.fn (Steps_new p d.s g.v hB)) (Evs.cons Ev.a (Evs.cons Ev.a Evs.nil))) rfl ?_;(iterate 2 refine sI ?_);refine zD ?_)
 rw [← hl]
 refine zB ?_
 refine WP.loop (fun k : Nat => ⟨[(27,.im (IV.int k)),(26,.im (IV.int l.length)),(25,.im (stpsV l)),(4,.row 1 k),(3,.im (IV.ptr [IV.str [],IV.str [114,101,97,100,32],IV.str [119,114,105,116,101,32]])),(0,.is v0 (.off 0 0))],tabH 40 p d ++ [(1,.row 9 1 cStr ((l.take k).map stepT))],2⟩) (fun k => k ≤ l.length) (fun k => l.length - k) 0 (Nat.zero_le _) (Shift.sub [(0,0),(1,2)] rfl SubE.a (SubH.cons rfl rfl (ObLe.blk SLes.a) (SubH.cons rfl rfl (ObLe.row rfl) SubH.nil))) ?_
 rintro k hk
 (refine zR ?_;refine sI ?_;refine zN ?_)
 refine zC (fun h => ?_) (fun h => ?_)
 ·refine zS ?_
  have hlt : k < l.length := by simpa using h
  obtain ⟨x,hx⟩ := oc hlt
  have hmem := List.mem_of_getElem? hx
  obtain ⟨hk12,t0,t8,s0,s4⟩ := hr x hmem
  have h12 := hs12 x hmem
  have hnx := canTo_next' hx
  have hxl : ((l.take k).map stepT).length = k := by rw [List.length_map,List.length_take];omega
  obtain ⟨kd,tn,sh⟩ := x
  simp only at hk12 t0 t8 s0 s4
  have d1 := ut t0 (by omega)
  have d2 := ut s0 (by omega)
  clear h
  refine zB ?_
  (refine zR ?_;(iterate 4 refine sI ?_);refine zN ?_)
  refine WP.shift (Shift.frzBlk 6 rfl rfl rfl) ?_
  rcases hk12 with rfl | rfl
  ·have he : stepT ⟨1,tn,sh⟩ = [114,101,97,100,32] ++ digs tn ++ [32] ++ digs sh := rfl
   (refine zW ?_;refine sI ?_;refine fI 0 ?_;refine sI ?_;refine ALK.n (oS (n := 3) (k := 1) (i := 1) rfl (eB rfl) (eB rfl) (by decide) (by decide)) rfl ?_;refine sI ?_;refine fI 1 ?_;refine sI ?_;refine ALK.n (o3 (yH tn t0 (by omega)) (Evs.cons Ev.a Evs.nil)) rfl ?_;refine ALK.n (ol (a := [114,101,97,100,32]) (eB rfl) (eB rfl) (by simp;omega)) rfl ?_;refine ALK.n (ol (b := [32]) (eB rfl) (eB rfl) (by simp;omega)) rfl ?_;refine fI 2 ?_;refine sI ?_;refine ALK.n (o3 (yH sh s0 (by omega)) (Evs.cons Ev.a Evs.nil)) rfl ?_;refine ALK.n (ol (eB rfl) (eB rfl) (by simp;omega)) rfl ?_;refine ALK.n (o6 rfl rfl rfl rfl rfl rfl (Pc rfl (eB rfl) Cs.a rfl rfl Parts.nil) rfl) rfl ?_;refine ALK.e (o8 (b := 16) [stepT ⟨1,tn,sh⟩] rfl rfl rfl rfl rfl (eB rfl) (eB rfl) rfl rfl (by rw [hxl];simp;omega) rfl) rfl rfl ?_;refine sI ?_;refine zD ?_)
   (refine zR ?_;(iterate 2 refine sI ?_);refine zN ?_)
   show ∃ _,_ ∧ _ ∧ _
   exact ⟨k + 1,by omega,by omega,Shift.sub [(0,0),(1,3)] rfl (SubE.cons rfl SLe.a (SubE.cons rfl SLe.a (SubE.cons rfl SLe.a (SubE.cons rfl (SLe.row rfl (by rw [hxl];rfl)) SubE.a)))) (SubH.cons rfl rfl (ObLe.blk SLes.a) (SubH.cons rfl rfl (ObLe.row hnx.symm) SubH.nil))⟩
  ·have he : stepT ⟨2,tn,sh⟩ = [119,114,105,116,101,32] ++ digs tn ++ [32] ++ digs sh := rfl
   (refine zW ?_;refine sI ?_;refine fI 0 ?_;refine sI ?_;refine ALK.n (oS (n := 3) (k := 1) (i := 2) rfl (eB rfl) (eB rfl) (by decide) (by decide)) rfl ?_;refine sI ?_;refine fI 1 ?_;refine sI ?_;refine ALK.n (o3 (yH tn t0 (by omega)) (Evs.cons Ev.a Evs.nil)) rfl ?_;refine ALK.n (ol (a := [119,114,105,116,101,32]) (eB rfl) (eB rfl) (by simp;omega)) rfl ?_;refine ALK.n (ol (b := [32]) (eB rfl) (eB rfl) (by simp;omega)) rfl ?_;refine fI 2 ?_;refine sI ?_;refine ALK.n (o3 (yH sh s0 (by omega)) (Evs.cons Ev.a Evs.nil)) rfl ?_;refine ALK.n (ol (eB rfl) (eB rfl) (by simp;omega)) rfl ?_;refine ALK.n (o6 rfl rfl rfl rfl rfl rfl (Pc rfl (eB rfl) Cs.a rfl rfl Parts.nil) rfl) rfl ?_;refine ALK.e (o8 (b := 16) [stepT ⟨2,tn,sh⟩] rfl rfl rfl rfl rfl (eB rfl) (eB rfl) rfl rfl (by rw [hxl];simp;omega) rfl) rfl rfl ?_;refine sI ?_;refine zD ?_)
   (refine zR ?_;(iterate 2 refine sI ?_);refine zN ?_)
   show ∃ _,_ ∧ _ ∧ _
   exact ⟨k + 1,by omega,by omega,Shift.sub [(0,0),(1,3)] rfl (SubE.cons rfl SLe.a (SubE.cons rfl SLe.a (SubE.cons rfl SLe.a (SubE.cons rfl (SLe.row rfl (by rw [hxl];rfl)) SubE.a)))) (SubH.cons rfl rfl (ObLe.blk SLes.a) (SubH.cons rfl rfl (ObLe.row hnx.symm) SubH.nil))⟩
 ·refine zE ?_
  have hke : k = l.length := by simp at h;omega
  subst hke
  rw [List.take_length]
  refine WP.shift (Shift.frzRow 4 rfl rfl) ?_
  have hj : (joinS [59,32] (l.map stepT)).length ≤ 900 := by
   have := canT_len g.v
   rw [← hl] at this
   exact this
  (refine zR ?_;refine sI ?_;refine ALK.n (o3 (Join_fn (l.map stepT) [59,32] (by rw [List.length_map];omega) (by omega)) (Evs.cons Ev.a (Evs.cons Ev.a Evs.nil))) rfl ?_;refine sI ?_;refine zN ?_)
  exact zT Tryz.results44
section
variable {C : Cfg} {F : Fx} {nt : Nat}
theorem drawM_any {l l' : List Oper} {m : Nat} {o : Oper} {ks : List Nat} {f : Nat → St} {sf : Nat → SV} {ob : Nat → HObj}
 (hst : ∀ i p,l'[i]? = some p → StepAt C l'.toArray nt (ks.getD i 0) p (f i) (sf i) (ob i) (f (i + 1))) (hok : regOk l' ks = true) (hkl : ks.length = l'.length)
 (hk0 : ks.all (Nat.beq 0) = true) (hlen : l.length = l'.length) (haf : ∀ i : Nat,(l[i]?).map Oper.after = (l'[i]?).map Oper.after) (hm : l[m]? = some o) (hgu : l.all (fun o => o.guard.isNone) = true)
 (hsame : ∀ i : Nat,i ≠ m → l[i]? = l'[i]? ∨ Nat.testBit ((masks l' []).getD i 0) m = true) (σm : Env)
 (hσ : ∀ t s,lk σm t = some s → lk (f l'.length).σ t = some s)
 (hσ2 : ∀ t s,lk σm t = some s → ∀ j o',l'[j]? = some o' → o'.dst = some t → Nat.testBit ((masks l' []).getD m 0) j = true)
 {Q : Exit → Act → World → Prop} {n : Nat} (hq : ∀ μ ρ a w,Inv F nt ⟨σm,(f 0).H,(f 0).fr⟩ μ ρ a w → ∀ K,o.wpIn F.fen n C.P a w K Q) :
 ∀ (fuel : Nat) (listed : Array Bool) (μ : Mem) (ρ : Nms) (H : List Ent) (a : Act) (w : World),listed.size = l'.length → listed[m]? = some false → listed.toList.count false ≤ fuel → Jn C F nt l' ks f sf ob (Lst l'.length listed) μ ρ H a w → wpAnyIn F.fen n C.P .any l.toArray Q fuel listed a w := by
 have hrd : ∀ listed,Region.ready .any l.toArray listed = Region.ready .any l'.toArray listed := ready_after (by simpa using hlen) (fun i => by simpa using haf i)
 have hml : m < l'.length := by rw [← hlen];exact (List.getElem?_eq_some_iff.1 hm).1
 have hno : ∀ (listed : Array Bool),listed.size = l'.length → listed[m]? = some false → Region.ready .any l'.toArray listed ≠ [] := fun listed hsz hl hr => by
  have := (not_ready hsz hr (fun i o ho => (y2 hok ho).dep) m hml).2
  rw [Array.getD_eq_getD_getElem?,hl] at this
  simp at this
 have hkz : ∀ i k,ks[i]? = some k → k = 0 := fun i k h => by
  have := List.all_eq_true.1 hk0 k (List.mem_of_getElem? h)
  exact (Nat.eq_of_beq_eq_true this).symm
 intro fuel
 induction fuel with
 | zero =>
  intro listed μ ρ H a w hsz hmf hc h
  exfalso
  have h1 : false ∈ listed.toList := by
   have := Array.mem_of_getElem? hmf
   simpa using this
  have := List.count_pos_iff.2 h1
  omega
 | succ fuel ih =>
  intro listed μ ρ H a w hsz hmf hc h
  refine ⟨fun hr => absurd (by rw [← hrd];exact hr) (hno listed hsz hmf),fun i hi => ?_⟩
  rw [hrd] at hi
  obtain ⟨p,hp,hl,hdep⟩ := jV hi
  have hp' : l'[i]? = some p := by simpa using hp
  have hlt : i < l'.length := (List.getElem?_eq_some_iff.1 hp').1
  have hlf : listed[i]? = some false := by
   rw [Array.getD_eq_getD_getElem?,Array.getElem?_eq_getElem (by omega)] at hl
   rw [Array.getElem?_eq_getElem (by omega)]
   simpa using hl
  have hdep' : ∀ e ∈ p.after.toList,Region.binds .any e = true → Lst l'.length listed e.on := fun e he hb => ⟨Nat.lt_trans ((y2 hok hp').dep e he hb) hlt,hdep e he hb⟩
  have hmask : ∀ b,Nat.testBit ((masks l' []).getD i 0) b = true → Lst l'.length listed b := by
   rw [(y2 hok hp').mask];exact jD h.clos hdep'
  by_cases him : i = m
  ·subst him
   have hw : ∀ y,Region.wanted o y = true := fun y => by
    have := List.all_eq_true.1 hgu o (List.mem_of_getElem? hm)
    have : o.guard = none := by simpa using this
    simp [Region.wanted,this]
   have ho2 : l.toArray[i]? = some o := by simpa using hm
   unfold wpOpIn
   rw [ho2]
   dsimp only
   rw [if_pos (hw _)]
   refine hq μ ρ a w ⟨h.size,h.defers,fun t s ht => ?_,h.agr,?_,fun j hj => ?_,h.os,h.tape,h.output,h.hsize,h.block,h.le,h.new,fun e he g hg => ?_⟩ _
   ·rcases lk_text hst (Nat.le_refl _) (hσ t s ht) with ⟨j,o',h1,h2,h3,rfl⟩ | ⟨h1,h2⟩
    ·exact h.done j o' t (hmask j (hσ2 t _ ht j o' h2 h3)) h2 h3
    ·exact h.rest t s (fun j o' hL ho' => h1 j o' (h.inl j hL) ho') h2
   ·rcases h.hat with ⟨q,h1,h2,_⟩ | ⟨_,h2⟩
    ·have := hkz q 2 h2;omega
    ·exact h.heap.sub fun e he => (h2 e).2 (.inl he)
   ·rcases h.nms j hj with h1 | ⟨q,h1,h2,h3⟩
    ·exact h1
    ·exfalso
     have hq' := h.inl q h1
     obtain ⟨p2,hp2⟩ : ∃ p2,l'[q]? = some p2 := ⟨_,List.getElem?_eq_getElem hq'⟩
     have hkq : ks.getD q 0 = 0 := by
      rw [List.getD_eq_getElem?_getD]
      cases e : ks[q]? with
      | none => rfl
      | some k => exact hkz q k e
     obtain ⟨_,_,hk⟩ := hst q p2 hp2
     rw [hkq] at hk
     rcases hk with ⟨_,_,h4,_⟩ | ⟨h4,_⟩ | ⟨h4,_⟩ | ⟨h4,_⟩
     ·omega
     ·cases h4
     ·cases h4
     ·cases h4
   ·rcases h.hat with ⟨q,h1,h2,_⟩ | ⟨_,h2⟩
    ·have := hkz q 2 h2;omega
    ·exact h.own e ((h2 e).2 (.inl he)) g hg
  ·have hpl : l[i]? = some p := by
    rcases hsame i him with h1 | h1
    ·rw [h1];exact hp'
    ·exfalso
     have := (hmask m h1).2
     rw [Array.getD_eq_getD_getElem?,hmf] at this
     simp at this
   have hstep := h.step hst hok hkl hp' (fun hL => by
    have := hL.2
    rw [Array.getD_eq_getD_getElem?,hlf] at this
    simp at this) hdep'
   have hL : (fun j => Lst l'.length listed j ∨ j = i) = Lst l'.length (listed.setIfInBounds i true) := by
    funext j
    apply propext
    unfold Lst
    rw [Array.getD_eq_getD_getElem?,Array.getD_eq_getD_getElem?,Array.getElem?_setIfInBounds]
    by_cases e : i = j
    ·subst e
     rw [if_pos rfl,if_pos (by omega)]
     simp;omega
    ·rw [if_neg e]
     constructor
     ·rintro (h1 | h1)
      ·exact h1
      ·exact absurd h1.symm e
     ·exact .inl
   rw [hL] at hstep
   have hcnt : (listed.setIfInBounds i true).toList.count false ≤ fuel := by
    rw [Array.toList_setIfInBounds]
    have h1 : i < listed.toList.length := by simpa using (by omega : i < listed.size)
    have h2 : listed.toList[i] = false := by
     have := Array.getElem?_eq_some_iff.1 hlf
     simpa using this.2
    have h3 := List.count_set (a := true) (b := false) (l := listed.toList) (i := i) h1
    rw [h2] at h3
    have h5 := List.count_pos_iff.2 (h2 ▸ List.getElem_mem h1 : false ∈ listed.toList)
    have h6 : (listed.toList.set i true).count false = listed.toList.count false - 1 := by rw [h3];rfl
    omega
   have hm' : (listed.setIfInBounds i true)[m]? = some false := by
    rw [Array.getElem?_setIfInBounds,if_neg him];exact hmf
   have hp2 : l.toArray[i]? = some p := by simpa using hpl
   have hgn : p.guard = none := by
    have := List.all_eq_true.1 hgu p (List.mem_of_getElem? hpl)
    simpa using this
   unfold wpOpIn
   rw [hp2]
   unfold Next1 at hstep
   dsimp only
   have hw : ∀ y,Region.wanted p y = true := fun y => by simp [Region.wanted,hgn]
   rw [if_pos (hw _)] at hstep
   rw [if_pos (hw _)]
   exact jG (fun a' w' ⟨_,_,_,h3⟩ => h3.defers.trans h.defers.symm) (fun a' w' ⟨μ',ρ',H',h2⟩ => ih _ μ' ρ' H' a' w' (by simpa using hsz) hm' hcnt h2) hstep
def fakeAt (v : Go.Operand) (fk : List Nat) : Nat → List Oper → List Oper
 | _,[] => []
 | i,o :: l => (match fk.any (Nat.beq i) with
  | true => fakeOp v o
  | false => o) :: fakeAt v fk (i + 1) l
theorem vy (v : Go.Operand) (fk : List Nat) : ∀ (l : List Oper) (i0 i : Nat),(fakeAt v fk i0 l)[i]? = (l[i]?).map fun o => match fk.any (Nat.beq (i0 + i)) with
  | true => fakeOp v o
  | false => o
 | [],_,_ => rfl
 | o :: l,i0,0 => rfl
 | o :: l,i0,i + 1 => by
  show (fakeAt v fk (i0 + 1) l)[i]? = _
  rw [vy v fk l (i0 + 1) i,show i0 + 1 + i = i0 + (i + 1) by omega]
  rfl
theorem fakeAt_len (v : Go.Operand) (fk : List Nat) : ∀ (l : List Oper) (i0 : Nat),(fakeAt v fk i0 l).length = l.length
 | [],_ => rfl
 | o :: l,i0 => by simp [fakeAt,fakeAt_len v fk l (i0 + 1)]
inductive SubL (σ : Env) : Env → Prop
 | nil : SubL σ []
 | cons {t : Nat} {s : SV} {σ' : Env} (h : lk σ t = some s) (k : SubL σ σ') : SubL σ ((t,s) :: σ')
theorem SubL.at {σ σ' : Env} (h : SubL σ σ') : ∀ {t : Nat} {s : SV},lk σ' t = some s → lk σ t = some s := by
 induction h with
 | nil => intro t s h;cases h
 | @cons d s0 σ' h k ih =>
  intro t s ht
  simp only [lk] at ht
  cases hb : Nat.beq d t with
  | true =>
   rw [hb] at ht
   injection ht with ht
   subst ht
   rw [← Nat.eq_of_beq_eq_true hb];exact h
  | false => rw [hb] at ht;exact ih ht
theorem lk_mem : ∀ {σ : Env} {t : Nat} {s : SV},lk σ t = some s → (t,s) ∈ σ
 | (d,s0) :: σ,t,s,h => by
  simp only [lk] at h
  cases hb : Nat.beq d t with
  | true =>
   rw [hb] at h
   injection h with h
   subst h
   rw [← Nat.eq_of_beq_eq_true hb];exact List.mem_cons_self
  | false => rw [hb] at h;exact List.mem_cons_of_mem _ (lk_mem h)
def mOk (l l' : List Oper) (ks : List Nat) (m : Nat) (fk ts : List Nat) : Bool :=
 regOk l' ks && ks.all (Nat.beq 0) && l.all (fun o => o.guard.isNone) && fk.any (Nat.beq m) &&
 fk.all (fun i => Nat.beq i m || Nat.testBit ((masks l' []).getD i 0) m) &&
 ts.all (fun t => allIdx (fun j o' => !optEq o'.dst t || Nat.testBit ((masks l' []).getD m 0) j) 0 l')
theorem ALK.nilM {l0 : List Oper} {x : St} {dn : List Nat} {ops : Array Oper} {l : List Oper} {m : Nat} {fk ts : List Nat} {K : St → Prop} (hr : mOk l l0 dn.reverse m fk ts = true) (h : K x) : ALK C ops nt dn [] x (fun ks y => mOk l l0 ks m fk ts = true ∧ K y) := ⟨[],[],x,.nil,by simpa using hr,h⟩
theorem WP.drawM {id : Nat} {l : List Oper} {x : St} {Q : Exit → St → Prop} (m : Nat) (o : Oper) (v : Go.Operand) (fk : List Nat) (σm : Env) (hm : l[m]? = some o)
 (h : ALK C (fakeAt v fk 0 l).toArray nt [] (fakeAt v fk 0 l) x (fun ks y => mOk l (fakeAt v fk 0 l) ks m fk (σm.map (·.1)) = true ∧ SubL y.σ σm ∧ ∃ c H' fr',OpP C o σm x.H x.fr c H' fr' ∧ Q (.panic c) ⟨σm,H',fr'⟩)) : WP C F nt (.region id l.toArray true) Q x := by
 obtain ⟨ks,ss,y,h1,h2,hsub,c,H',fr',hp,hq⟩ := h
 simp only [List.reverse_nil,List.nil_append] at h2
 unfold mOk at h2
 simp only [Bool.and_eq_true] at h2
 obtain ⟨⟨⟨⟨⟨hok,hk0⟩,hgu⟩,hfm⟩,hfk⟩,hts⟩ := h2
 intro μ ρ a w hi
 obtain ⟨hkl,f,sf,ob,h0,hy,hst⟩ := h1.at
 have hll := fakeAt_len v fk l 0
 have hml : m < l.length := (List.getElem?_eq_some_iff.1 hm).1
 refine wpIn_region_any C.mixed ?_
 have hsz : l.toArray.size = l.length := by simp
 refine drawM_any (m := m) (o := o) (l' := fakeAt v fk 0 l) hst hok hkl hk0 hll.symm (fun i => ?_) hm hgu (fun i hne => ?_) σm (fun t s ht => ?_) (fun t s ht j o' hj hd => ?_) (F := F) (fun μ' ρ' a' w' h2 K => ?_) _ _ μ ρ x.H a _ (by rw [hll];simp) (by rw [Array.getElem?_replicate,if_pos (by simpa using hml)]) (by simp) ?_
 ·rw [vy]
  cases l[i]? with
  | none => rfl
  | some p =>
   simp only [Option.map_some]
   cases fk.any (Nat.beq (0 + i)) <;> rfl
 ·rw [vy,Nat.zero_add]
  cases hb : fk.any (Nat.beq i) with
  | false =>
   left
   cases l[i]? <;> rfl
  | true =>
   right
   obtain ⟨j,hj,hij⟩ := List.any_eq_true.1 hb
   have := Nat.eq_of_beq_eq_true hij
   subst this
   rcases Bool.or_eq_true _ _ ▸ List.all_eq_true.1 hfk i hj with h3 | h3
   ·exact absurd (Nat.eq_of_beq_eq_true h3) hne
   ·exact h3
 ·rw [hy];exact hsub.at ht
 ·have h3 := List.all_eq_true.1 hts t (List.mem_map.2 ⟨(t,s),lk_mem ht,rfl⟩)
  have h4 := yZ h3 hj
  rw [Nat.zero_add,optEq_iff.2 hd] at h4
  simpa using h4
 ·rw [h0] at h2
  refine hp.2.2 ρ' μ' a' w' (h2.env.look o) h2.agr h2.heap (fun i k1 k2 => ?_) _ _ fun a3 w3 μ3 ρ3 e1 e2 k1 k2 k3 k4 => ?_
  ·cases e : ρ' i with
   | none => rfl
   | some u => exact absurd (h2.nms i (by rw [e];simp)) (Nat.not_lt.2 k1)
  ·have h3 := h2.estp hp.1 k1 k2 k3 k4
   exact ⟨_,μ3,ρ3,hq,⟨by rw [e1];exact h3.size,by rw [e2];exact h3.defers,by rw [e1];exact h3.env,h3.agr,h3.heap,h3.nms,h3.os,h3.tape,h3.output,h3.hsize,h3.block,h3.le,h3.new,h3.own⟩⟩
 ·have hno : ∀ i,¬ Lst (fakeAt v fk 0 l).length (Array.replicate l.toArray.size false) i := by
   rintro i ⟨h2,h3⟩
   rw [Array.getD_eq_getD_getElem?,Array.getElem?_replicate] at h3
   split at h3 <;> simp at h3
  refine ⟨hi.size,hi.defers,fun i o d hL => (hno i hL).elim,?_,hi.agr,hi.heap,.inr ⟨fun i hL => (hno i hL).elim,fun e => ?_⟩,?_,fun i hL => (hno i hL).elim,fun i hL => (hno i hL).elim,hi.os,hi.tape,hi.output,hi.hsize,hi.block,hi.le,hi.new,hi.own⟩
  ·intro d s _ hs
   rw [h0] at hs
   exact hi.env d s hs
  ·rw [h0]
   exact ⟨.inl,fun h => h.elim (fun h => h) fun ⟨j,hj,_⟩ => (hno j hj).elim⟩
  ·intro i h2
   rw [h0]
   exact .inl (hi.nms i h2)
end
end Go.Proofs.YtjgmbgfcffnanaaGreatDoor
