/- The contracts that were proved by the elder walks, in the logic's form. The reference: CheckTxn, by the logic. -/
import Derived.Test.YtjgmbgfcffnanaaGreatDoorZ1
import Derived.Test.YtjgmbgfcffnanaaGreatDoorZ2
import Derived.Test.YtjgmbgfcffnanaaGreatDoorZ5
set_option maxRecDepth 100000
set_option maxHeartbeats 4000000
namespace Go.Proofs.YtjgmbgfcffnanaaGreatDoor
open Go.RowKit
def cI (x : Int) : List IV := [IV.int x]
def cG (g : Guard) : List IV := [IV.int g.kind,IV.int g.a.kind,IV.int g.a.n,IV.int g.b.kind,IV.int g.b.n]
def cS (s : SetT) : List IV := [IV.int s.key,IV.int s.op,IV.int s.a.kind,IV.int s.a.n,IV.int s.b.kind,IV.int s.b.n]
def cT (t : Txn) : List IV := [IV.view 1 cI t.reads,IV.view 5 cG t.guards,IV.view 6 cS t.sets]
abbrev txnV (t : Txn) : IV := IV.agg (cT t)
abbrev intsV (xs : List Int) : IV := IV.view 1 cI xs
def cR (r : Res) : List IV := [IV.bool r.done,intsV r.vals]
abbrev resV (r : Res) : IV := IV.agg (cR r)
def TxnB (t : Txn) : Prop := t.sets.length * 48 ≤ 140737488351232
theorem qL {μ : Mem} : ∀ {us vs : List Value},IVs μ (us.map IV.val) vs → vs = us
 | [],_,h => h
 | u :: us,_,⟨v,vs',e,h1,h2⟩ => by subst e;rw [show v = u from h1,qL h2]
theorem qp {α : Type} {μ : Mem} {w : World} (ha : Agr μ w) {k : Nat} {enc : α → List IV} {enc' : α → List Value} (he : ∀ x,enc x = (enc' x).map IV.val) (hne : ∀ x,enc' x ≠ []) {xs : List α} {v : Value} (h : (IV.view k enc xs).p μ v) :
 ∃ A c,v = .slice A xs.length c ∧ xs.length ≤ c ∧ c ≤ maxLen ∧ Rd k enc' w A xs.length xs := by
 obtain ⟨A,c,e,h1,h2,h3⟩ := h
 refine ⟨A,c,e,h1,h2,rfl,?_⟩
 rcases h3 with h3 | ⟨b,o,hA,h3⟩
 ·exact .inl h3
 ·by_cases h0 : xs = []
  ·exact .inl h0
  ·have key : ∀ i x,xs[i]? = some x → ∀ j u,(enc' x)[j]? = some u → w.cell? ⟨b,o + i * k + j,none⟩ = some u := fun i x hx j u hu => by
    obtain ⟨cs,v',k1,k2,k3,_⟩ := h3 i x hx j (IV.val u) (by rw [he,List.getElem?_map,hu];rfl)
    obtain ⟨t,fz,hh⟩ := ha b cs k1
    simp only [World.cell?,hh]
    rw [k2];exact congrArg some k3
   refine .inr ⟨b,o,hA,?_,key⟩
   obtain ⟨x,xs',rfl⟩ := List.exists_cons_of_ne_nil h0
   obtain ⟨u,us,hu⟩ := List.exists_cons_of_ne_nil (hne x)
   exact World.block_lt_of_cell? w _ (key 0 x rfl 0 u (by rw [hu];rfl))
theorem q8 {α : Type} {E k B : Nat} {μ : Mem} {w : World} (ha : Agr μ w) {enc : α → List IV} {enc' : α → List Value} (he : ∀ x,enc x = (enc' x).map IV.val) (hk : ∀ x,(enc' x).length = k) (h1 : ∀ x,One (enc' x)) {v : Value} {xs : List α} (h : Own E k enc' w B v xs) :
 ∃ μ',Mem.le μ μ' ∧ (∀ b,μ' b ≠ none → μ b ≠ none ∨ B ≤ b) ∧ Agr μ' w ∧ (IV.view k enc xs).p μ' v := by
 rcases h.2 with ⟨rfl,hn⟩ | ⟨g,cap,cur,rfl,hg,hh,hnc,hcm,hcs,htake⟩
 ·have : xs = [] := List.eq_nil_of_length_eq_zero hn
  subst this
  exact ⟨μ,Mem.le.refl _,fun b hb => .inl hb,ha,none,0,rfl,Nat.le_refl _,by simp [maxLen],.inl rfl⟩
 ·have hle : Mem.le μ (μ.add g cur) := fun b c hb => by
   unfold Mem.add
   by_cases e : b = g
   ·subst e
    obtain ⟨t,fz,hh2⟩ := ha b c hb
    rw [hh] at hh2
    injection hh2 with hh2
    injection hh2 with hh2
    rw [if_pos rfl,hh2]
   ·rw [if_neg e];exact hb
  refine ⟨μ.add g cur,hle,fun b hb => ?_,fun b c hb => ?_,_,cap,rfl,hnc,hcm,.inr ⟨g,0,rfl,fun i x hx j s hj => ?_⟩⟩
  ·unfold Mem.add at hb
   by_cases e : b = g
   ·exact .inr (e ▸ hg)
   ·rw [if_neg e] at hb;exact .inl hb
  ·unfold Mem.add at hb
   by_cases e : b = g
   ·rw [if_pos e] at hb;injection hb with hb;subst hb;subst e;exact ⟨_,_,hh⟩
   ·rw [if_neg e] at hb;exact ha b c hb
  ·rw [he,List.getElem?_map,Option.map_eq_some_iff] at hj
   obtain ⟨u,hu,rfl⟩ := hj
   have h2 := flat_at hk xs i x hx j u hu
   refine ⟨cur,u,by unfold Mem.add;rw [if_pos rfl],?_,rfl,h1 x u (List.mem_of_getElem? hu)⟩
   rw [← htake,List.getElem?_take] at h2
   split at h2
   ·rw [Nat.zero_add];simpa using h2
   ·cases h2
theorem Stp.of_below {μ : Mem} {w w' : World} (ha : Agr μ w) (hb : Below w.heap.size w w') : Stp μ w μ w' :=
 ⟨hb,Mem.le.refl _,fun _ h => .inl h,fun b cs h => by obtain ⟨t,fz,hh⟩ := ha b cs h;exact ⟨t,fz,(hb.block b (Array.getElem?_eq_some_iff.1 hh).1).trans hh⟩⟩
theorem stp_more {μ μ' : Mem} {w w' : World} (h : Stp μ w μ w') (hle : Mem.le μ μ') (hn : ∀ b,μ' b ≠ none → μ b ≠ none ∨ w.heap.size ≤ b) (ha : Agr μ' w') : Stp μ w μ' w' := ⟨h.below,hle,hn,ha⟩
theorem Fn.plain {C : Cfg} {f : FuncId} {fn : Func} {args : List IV} {u : Value} (hf : C.P.funcs[f]? = some fn) (hb : fn.body.isNone = false) (hn : (fn.name == "runtime.NumGoroutine") = false)
 (h : ∀ μ w vs,IVs μ args vs → Agr μ w → Calls C.P f vs.toArray w fun e w' => e = .returned u ∧ Below w.heap.size w w') : Fn C f args (IV.val u) :=
 ⟨⟨fn,hf,hb,hn⟩,fun μ w vs hv ha => (h μ w vs hv ha).mono fun _ _ ⟨he,hb⟩ => ⟨u,μ,he,rfl,Stp.of_below ha hb⟩⟩
theorem IV.tup_val (us : List Value) (μ : Mem) : (IV.tup (us.map IV.val)).p μ (.tuple us.toArray) := ⟨us,rfl,by
 induction us with
 | nil => rfl
 | cons u us ih => exact ⟨u,us,rfl,rfl,ih⟩⟩
theorem Fn.tups {C : Cfg} {f : FuncId} {fn : Func} {args : List IV} (us : List Value) (hf : C.P.funcs[f]? = some fn) (hb : fn.body.isNone = false) (hn : (fn.name == "runtime.NumGoroutine") = false)
 (h : ∀ μ w vs,IVs μ args vs → Agr μ w → Calls C.P f vs.toArray w fun e w' => e = .returned (.tuple us.toArray) ∧ Below w.heap.size w w') : Fn C f args (IV.tup (us.map IV.val)) :=
 ⟨⟨fn,hf,hb,hn⟩,fun μ w vs hv ha => (h μ w vs hv ha).mono fun _ _ ⟨he,hb⟩ => ⟨_,μ,he,IV.tup_val us μ,Stp.of_below ha hb⟩⟩
theorem jc {w w' : World} (h : w = w') : Below w.heap.size w w' := h ▸ Below.refl _ _
theorem agg2_vals {μ : Mem} {a b : Value} {v : Value} (h : (IV.agg [IV.val a,IV.val b]).p μ v) : v = .agg #[a,b] := by
 obtain ⟨vs,rfl,h,_⟩ := h
 rw [qL (us := [a,b]) h]
theorem qZ (x : Int) : cI x = (encI x).map IV.val := rfl
theorem cG_val (x : Guard) : cG x = (encG x).map IV.val := rfl
theorem cS_val (x : SetT) : cS x = (encS x).map IV.val := rfl
theorem vals_Check_fn (k n r : Int) : Fn CC 152 [IV.agg [IV.int k,IV.int n],IV.int r] (IV.int (checkOp k n r)) :=
 Fn.plain Tryz.func152 rfl (by kernel_rfl) fun μ w vs ⟨v0,_,e0,h0,v1,_,e1,h1,e2⟩ _ => by
  subst e0 e1 e2;rw [agg2_vals h0,show v1 = .int .i64 r from h1];exact yt k n r w
theorem yw (k n r : Int) : Fn CC 172 [IV.agg [IV.int k,IV.int n],IV.int r] (IV.int (checkOp k n r)) :=
 Fn.plain Tryz.func172 rfl (by kernel_rfl) fun μ w vs ⟨v0,_,e0,h0,v1,_,e1,h1,e2⟩ _ => by
  subst e0 e1 e2;rw [agg2_vals h0,show v1 = .int .i64 r from h1];exact ref_CheckOperand k n r w
theorem vals_Holds_fn (k a b : Int) : Fn CC 128 [IV.int k,IV.int a,IV.int b] (IV.tup [IV.bool (holdsB k a b),IV.int (holdsE k)]) :=
 Fn.tups [.bool (holdsB k a b),.int .i64 (holdsE k)] Tryz.func128 rfl (by kernel_rfl) fun μ w vs hv _ => by
  rw [qL (us := [.int .i64 k,.int .i64 a,.int .i64 b]) hv];exact (qe k a b w).mono fun e w' ⟨h1,h2⟩ => ⟨h1,jc h2⟩
theorem ref_HoldsOf_fn (k a b : Int) : Fn CC 142 [IV.int k,IV.int a,IV.int b] (IV.tup [IV.bool (holdsB k a b),IV.int (holdsE k)]) :=
 Fn.tups [.bool (holdsB k a b),.int .i64 (holdsE k)] Tryz.func142 rfl (by kernel_rfl) fun μ w vs hv _ => by
  rw [qL (us := [.int .i64 k,.int .i64 a,.int .i64 b]) hv];exact (ref_HoldsOf k a b w).mono fun e w' ⟨h1,h2⟩ => ⟨h1,jc h2⟩
theorem ref_ReckonOf_fn (k a b : Int) : Fn CC 144 [IV.int k,IV.int a,IV.int b] (IV.tup [IV.int (reckonN k a b),IV.int (reckonE k)]) :=
 Fn.tups [.int .i64 (reckonN k a b),.int .i64 (reckonE k)] Tryz.func144 rfl (by kernel_rfl) fun μ w vs hv _ => by
  rw [qL (us := [.int .i64 k,.int .i64 a,.int .i64 b]) hv];exact (ref_ReckonOf k a b w).mono fun e w' ⟨h1,h2⟩ => ⟨h1,jc h2⟩
theorem ji (k : Int) : Fn CC 65 [IV.int k] (IV.bool (isKeyB k)) :=
 Fn.plain Tryz.func65 rfl (by kernel_rfl) fun μ w vs hv _ => by
  rw [qL (us := [.int .i64 k]) hv];exact (ref_isKey k w).mono fun e w' ⟨h1,h2⟩ => ⟨h1,jc h2⟩
theorem txn_at {μ : Mem} {w : World} (ha : Agr μ w) {t : Txn} (hb : TxnB t) {v : Value} (h : (txnV t).p μ v) : ∃ ra rc ga gc sa sc,v = .agg #[.slice ra t.reads.length rc,.slice ga t.guards.length gc,.slice sa t.sets.length sc] ∧ TxnAt w ra t.reads.length ga t.guards.length sa t.sets.length t := by
 obtain ⟨vs,rfl,⟨v0,_,e0,h0,v1,_,e1,h1,v2,_,e2,h2,e3⟩,_⟩ := h
 subst e0 e1 e2 e3
 obtain ⟨ra,rc,rfl,l1,l2,r1⟩ := qp ha qZ (fun _ => by simp [encI]) h0
 obtain ⟨ga,gc,rfl,l3,l4,r2⟩ := qp ha cG_val (fun _ => by simp [encG]) h1
 obtain ⟨sa,sc,rfl,_,_,r3⟩ := qp ha cS_val (fun _ => by simp [encS]) h2
 exact ⟨ra,rc,ga,gc,sa,sc,rfl,r1,r2,r3,by simp only [maxLen] at l2;omega,by simp only [maxLen] at l4;omega,hb⟩
theorem txn_Check_fn (t : Txn) (hb : TxnB t) : Fn CC 112 [txnV t] (IV.int (checkTxn t)) :=
 Fn.plain Tryz.func112 rfl (by kernel_rfl) fun μ w vs ⟨v0,_,e0,h0,e1⟩ ha => by
  subst e0 e1
  obtain ⟨ra,rc,ga,gc,sa,sc,rfl,h⟩ := txn_at ha hb h0
  exact txn_Check _ _ _ _ _ _ _ _ _ t w h
theorem qx (t : Txn) (hb : TxnB t) : Fn CC 147 [txnV t] (intsV (keysOf t)) :=
 ⟨⟨_,Tryz.func147,rfl,by kernel_rfl⟩,fun μ w vs ⟨v0,_,e0,h0,e1⟩ ha => by
  subst e0 e1
  obtain ⟨ra,rc,ga,gc,sa,sc,rfl,h⟩ := txn_at ha hb h0
  refine (txn_Keys _ _ _ _ _ _ _ _ _ t w h).mono ?_
  rintro e w' ⟨v,rfl,ho,hb⟩
  have hs := Stp.of_below ha hb
  obtain ⟨μ',k1,k2,k3,k4⟩ := q8 hs.agr qZ oy oneI ho
  exact ⟨v,μ',rfl,k4,stp_more hs k1 k2 k3⟩⟩
theorem do_stp {μ : Mem} {w w' : World} {r1 r2 : List Int} {b : Bool} {v1 v2 : Value} {E : TypeId} (ha : Agr μ w) (hb : Below w.heap.size w w') (h1 : Own E 1 encI w' w.heap.size v1 r1) (h2 : Own E 1 encI w' w.heap.size v2 r2) :
 ∃ v μ',Ending.returned (.tuple #[.agg #[.bool b,v1],v2]) = .returned v ∧ (IV.tup [resV ⟨b,r1⟩,intsV r2]).p μ' v ∧ Stp μ w μ' w' := by
 have hs := Stp.of_below ha hb
 obtain ⟨μ',k1,k2,k3,k4⟩ := q8 hs.agr qZ oy oneI h1
 obtain ⟨ν,m1,m2,m3,m4⟩ := q8 k3 qZ oy oneI h2
 have ho : v1.oneCell' = true := by obtain ⟨A,c,e,_⟩ := k4;rw [e];rfl
 refine ⟨_,ν,rfl,⟨[.agg #[.bool b,v1],v2],rfl,_,_,rfl,⟨[.bool b,v1],rfl,⟨_,_,rfl,rfl,_,_,rfl,IV.mono _ m1 k4,rfl⟩,?_⟩,_,_,rfl,m4,rfl⟩,stp_more hs (k1.trans m1) (fun b hb => (m2 b hb).elim (k2 b) .inr) m3⟩
 intro u hu
 simp only [List.mem_cons,List.not_mem_nil,or_false] at hu
 rcases hu with rfl | rfl
 ·rfl
 ·exact ho
theorem txn_Do_fn (t : Txn) (xs : List Int) (hb : TxnB t) (hok : checkTxn t = 0) (hx : xs.length = t.reads.length) : Fn CC 90 [txnV t,intsV xs] (IV.tup [resV ⟨runDone t xs,xs⟩,intsV (runSets t xs)]) :=
 ⟨⟨_,Tryz.func90,rfl,by kernel_rfl⟩,fun μ w vs ⟨v0,_,e0,h0,v1,_,e1,h1,e2⟩ ha => by
  subst e0 e1 e2
  obtain ⟨ra,rc,ga,gc,sa,sc,rfl,h⟩ := txn_at ha hb h0
  obtain ⟨xa,xc,rfl,_,_,hr⟩ := qp ha qZ (fun _ => by simp [encI]) h1
  rw [hx] at hr
  rw [hx]
  refine (txn_Do _ _ _ _ _ _ _ _ _ t _ _ xs w h hr hok).mono ?_
  rintro e w' ⟨v1,v2,rfl,o1,o2,hb⟩
  exact do_stp ha hb o1 o2⟩
theorem jo (t : Txn) (xs : List Int) (hb : TxnB t) (hok : checkTxn t = 0) (hx : xs.length = t.reads.length) : Fn CC 105 [txnV t,intsV xs] (IV.tup [resV ⟨runDone t xs,xs⟩,intsV (runSets t xs)]) :=
 ⟨⟨_,Tryz.func105,rfl,by kernel_rfl⟩,fun μ w vs ⟨v0,_,e0,h0,v1,_,e1,h1,e2⟩ ha => by
  subst e0 e1 e2
  obtain ⟨ra,rc,ga,gc,sa,sc,rfl,h⟩ := txn_at ha hb h0
  obtain ⟨xa,xc,rfl,_,_,hr⟩ := qp ha qZ (fun _ => by simp [encI]) h1
  rw [hx] at hr
  rw [hx]
  refine (ref_RunOf _ _ _ _ _ _ _ _ _ t _ _ xs w h hr hok).mono ?_
  rintro e w' ⟨v1,v2,rfl,o1,o2,hb⟩
  exact do_stp ha hb o1 o2⟩
theorem uZ (n l h : Int) : Fn CC 96 [IV.int n,IV.int l,IV.int h] (IV.bool (decide (n ≥ l) && decide (n ≤ h))) := by
 refine Fn.of_wp _ Tryz.func96 rfl (by kernel_rfl) Tryz.ntmps96 rfl ?_
 intro F hD hG
 (refine zR ?_;refine sA ?_;refine zN ?_)
 (refine zR ?_;(iterate 4 refine sA ?_);(iterate 3 refine gA ?_);(iterate 2 refine sA ?_);refine zN ?_)
 exact zT Tryz.results96
theorem oc {α : Type} {xs : List α} {k : Nat} (h : k < xs.length) : ∃ x,xs[k]? = some x := ⟨_,List.getElem?_eq_getElem h⟩
theorem ref_CheckTxn_fn (t : Txn) (_ : TxnB t) : Fn CC 135 [txnV t] (IV.int (checkTxn t)) := by
 have cS2 : ∀ (j : Nat) (x : SetT),t.sets[j]? = some x → (keysOf t)[j]? = some x.key := fun j x h => keysOf_get h
 refine Fn.of_wp _ Tryz.func135 rfl (by kernel_rfl) Tryz.ntmps135 rfl ?_
 intro F hD hG
 (refine zR ?_;(iterate 2 refine sA ?_);refine zN ?_)
 (refine zR ?_;refine fd 0 ?_;(iterate 4 refine sA ?_);refine gF 1 ?_;(iterate 3 refine gA ?_);(iterate 2 refine sA ?_);refine gF 2 ?_;(iterate 2 refine gA ?_);refine ALK.g (fun hb => o3 (uZ t.sets.length 1 3) (Evs.cons (eC rfl hb) (Evs.cons (eB rfl) (Evs.cons (eB rfl) Evs.nil)))) rfl rfl rfl ?_;refine gA ?_;refine sA ?_;refine zN ?_)
 refine zC (fun h => ?_) (fun h => ?_)
 ·have hr : checkTxn t = 2 := jF (fun hh => by unfold sizesOk at hh;simp at h;omega)
  (refine zR ?_;refine sA ?_;refine zN ?_)
  exact zT Tryz.results135
 refine zS ?_
 have hsz : sizesOk t := by unfold sizesOk;simp at h;omega
 have hsz2 := hsz
 obtain ⟨n1,n2,n3,n4⟩ : t.reads.length ≤ 4 ∧ t.guards.length ≤ 2 ∧ 0 < t.sets.length ∧ t.sets.length ≤ 3 := hsz2
 clear h
 (refine zR ?_;refine sA ?_;refine zN ?_)
 refine zB ?_
 refine WP.loop (fun k : Nat => ⟨[(3,.im (IV.int k)),(1,.im (IV.ptr (cT t)))],[],0⟩) (fun k => k ≤ t.reads.length ∧ KeysTo k t.reads) (fun k => t.reads.length - k) 0 ⟨Nat.zero_le _,fun j x hj => by omega⟩ (Shift.sub [] rfl SubE.a SubH.nil) ?_
 rintro k ⟨hk,hK⟩
 (refine zR ?_;refine sA ?_;refine fd 0 ?_;(iterate 3 refine sA ?_);refine zN ?_)
 refine zC (fun h => ?_) (fun h => ?_)
 ·refine zS ?_
  have hlt : k < t.reads.length := by simpa using h
  obtain ⟨x,hx⟩ := oc hlt
  clear h
  refine zB ?_
  (refine zR ?_;refine fd 0 ?_;(iterate 4 refine sA ?_);refine ALK.n (o3 (ji x) (Evs.cons Ev.a Evs.nil)) rfl ?_;refine sA ?_;refine zN ?_)
  refine zC (fun h => ?_) (fun h => ?_)
  ·have hr : checkTxn t = 3 := not_all_key hsz (List.mem_append_left _ (List.mem_of_getElem? hx)) (by simpa using h)
   (refine zR ?_;refine sA ?_;refine zN ?_)
   exact zT Tryz.results135
  refine zS ?_
  (refine zR ?_;(iterate 3 refine sA ?_);refine zN ?_)
  show ∃ _,_ ∧ _ ∧ _
  exact ⟨k + 1,⟨by omega,hK.next hx (by simpa using h)⟩,by omega,(Shift.sub [] rfl SubE.a SubH.nil)⟩
 refine zE ?_
 have hke : k = t.reads.length := by simp at h;omega
 subst hke
 clear h
 (refine zR ?_;refine sA ?_;refine zN ?_)
 refine zB ?_
 refine WP.loop (fun k : Nat => ⟨[(4,.im (IV.int k)),(1,.im (IV.ptr (cT t)))],[],0⟩) (fun k => k ≤ t.sets.length ∧ KeysTo k (keysOf t)) (fun k => t.sets.length - k) 0 ⟨Nat.zero_le _,fun j x hj => by omega⟩ (Shift.sub [] rfl SubE.a SubH.nil) ?_
 rintro k ⟨hk,hK2⟩
 (refine zR ?_;refine sA ?_;refine fd 2 ?_;(iterate 3 refine sA ?_);refine zN ?_)
 refine zC (fun h => ?_) (fun h => ?_)
 ·refine zS ?_
  have hlt : k < t.sets.length := by simpa using h
  obtain ⟨x,hx⟩ := oc hlt
  have hxk := cS2 k x hx
  clear h
  refine zB ?_
  (refine zR ?_;refine fd 2 ?_;(iterate 3 refine sA ?_);refine fd 0 ?_;refine sA ?_;refine ALK.n (o3 (ji x.key) (Evs.cons Ev.a Evs.nil)) rfl ?_;refine sA ?_;refine zN ?_)
  refine zC (fun h => ?_) (fun h => ?_)
  ·have hr : checkTxn t = 3 := not_all_key hsz (List.mem_append_right _ (List.mem_of_getElem? hxk)) (by simpa using h)
   (refine zR ?_;refine sA ?_;refine zN ?_)
   exact zT Tryz.results135
  refine zS ?_
  (refine zR ?_;(iterate 3 refine sA ?_);refine zN ?_)
  show ∃ _,_ ∧ _ ∧ _
  exact ⟨k + 1,⟨by omega,hK2.next hxk (by simpa using h)⟩,by omega,(Shift.sub [] rfl SubE.a SubH.nil)⟩
 refine zE ?_
 have hke : k = t.sets.length := by simp at h;omega
 subst hke
 have hall : (t.reads ++ keysOf t).all isKeyB = true := all_key hK (by rw [qC];exact hK2)
 clear h hK hK2
 (refine zR ?_;refine sA ?_;refine zN ?_)
 refine zB ?_
 refine WP.loop (fun k : Nat => ⟨[(5,.im (IV.int k)),(1,.im (IV.ptr (cT t)))],[],0⟩) (fun k => 1 ≤ k ∧ k ≤ max t.reads.length 1 ∧ RisUp k t.reads) (fun k => t.reads.length + 1 - k) 1 ⟨Nat.le_refl _,by omega,RisUp.one _⟩ (Shift.sub [] rfl SubE.a SubH.nil) ?_
 rintro k ⟨hk1,hk,hR⟩
 (refine zR ?_;refine sA ?_;refine fd 0 ?_;(iterate 3 refine sA ?_);refine zN ?_)
 refine zC (fun h => ?_) (fun h => ?_)
 ·refine zS ?_
  have hlt : k < t.reads.length := by simpa using h
  obtain ⟨j,rfl⟩ : ∃ j,k = j + 1 := ⟨k - 1,by omega⟩
  obtain ⟨x,hx⟩ := oc (show j < t.reads.length by omega)
  obtain ⟨y,hy⟩ := oc hlt
  have hx' : t.reads[(((j + 1 : Nat) : Int) - 1).toNat]? = some x := by rw [← hx];congr 1;omega
  have hy' : t.reads[((j + 1 : Nat) : Int).toNat]? = some y := by rw [← hy];congr 1
  clear h
  refine zB ?_
  (refine zW ?_;refine fd 0 ?_;(iterate 3 refine sA ?_);refine ALK.n (o7 rfl (eB rfl) (eB rfl) (by omega) hx') rfl ?_;refine sA ?_;refine fd 0 ?_;(iterate 2 refine sA ?_);refine ALK.n (o7 rfl (eB rfl) (eB rfl) (by omega) hy') rfl ?_;(iterate 2 refine sA ?_);refine zD ?_)
  refine zC (fun h => ?_) (fun h => ?_)
  ·have hr : checkTxn t = 1 := uO hsz hall (by rw [vr hx hy (by simpa using h)];rfl)
   (refine zR ?_;refine sA ?_;refine zN ?_)
   exact zT Tryz.results135
  refine zS ?_
  (refine zR ?_;(iterate 3 refine sA ?_);refine zN ?_)
  show ∃ _,_ ∧ _ ∧ _
  exact ⟨j + 2,⟨by omega,by omega,hR.next hx hy (by simpa using h)⟩,by omega,(Shift.sub [] rfl SubE.a SubH.nil)⟩
 refine zE ?_
 have hris1 : rising t.reads = true := hR.all (by simp at h;omega)
 clear h hR
 (refine zR ?_;refine sA ?_;refine zN ?_)
 refine zB ?_
 refine WP.loop (fun k : Nat => ⟨[(6,.im (IV.int k)),(1,.im (IV.ptr (cT t)))],[],0⟩) (fun k => 1 ≤ k ∧ k ≤ max t.sets.length 1 ∧ RisUp k (keysOf t)) (fun k => t.sets.length + 1 - k) 1 ⟨Nat.le_refl _,by omega,RisUp.one _⟩ (Shift.sub [] rfl SubE.a SubH.nil) ?_
 rintro k ⟨hk1,hk,hR⟩
 (refine zR ?_;refine sA ?_;refine fd 2 ?_;(iterate 3 refine sA ?_);refine zN ?_)
 refine zC (fun h => ?_) (fun h => ?_)
 ·refine zS ?_
  have hlt : k < t.sets.length := by simpa using h
  obtain ⟨j,rfl⟩ : ∃ j,k = j + 1 := ⟨k - 1,by omega⟩
  obtain ⟨x,hx⟩ := oc (show j < t.sets.length by omega)
  obtain ⟨y,hy⟩ := oc hlt
  have hx' : t.sets[(((j + 1 : Nat) : Int) - 1).toNat]? = some x := by rw [← hx];congr 1;omega
  have hy' : t.sets[((j + 1 : Nat) : Int).toNat]? = some y := by rw [← hy];congr 1
  have hxk := cS2 _ _ hx
  have hyk := cS2 _ _ hy
  clear h
  refine zB ?_
  (refine zW ?_;refine fd 2 ?_;(iterate 3 refine sA ?_);refine ALK.n (o7 rfl (eB rfl) (eB rfl) (by omega) hx') rfl ?_;refine fd 0 ?_;refine sA ?_;refine fd 2 ?_;(iterate 2 refine sA ?_);refine ALK.n (o7 rfl (eB rfl) (eB rfl) (by omega) hy') rfl ?_;refine fd 0 ?_;(iterate 2 refine sA ?_);refine zD ?_)
  refine zC (fun h => ?_) (fun h => ?_)
  ·have hr : checkTxn t = 1 := uO hsz hall (by rw [vr hxk hyk (by simpa using h),Bool.and_false])
   (refine zR ?_;refine sA ?_;refine zN ?_)
   exact zT Tryz.results135
  refine zS ?_
  (refine zR ?_;(iterate 3 refine sA ?_);refine zN ?_)
  show ∃ _,_ ∧ _ ∧ _
  exact ⟨j + 2,⟨by omega,by omega,hR.next hxk hyk (by simpa using h)⟩,by omega,(Shift.sub [] rfl SubE.a SubH.nil)⟩
 refine zE ?_
 have hris2 : rising (keysOf t) = true := hR.all (by rw [qC];simp at h;omega)
 have hfin := jN hsz hall (by rw [hris1,hris2];rfl)
 clear h hR
 (refine zR ?_;refine sA ?_;refine zN ?_)
 refine zB ?_
 refine WP.loop (fun k : Nat => ⟨[(7,.im (IV.int k)),(1,.im (IV.ptr (cT t)))],[],0⟩) (fun k => k ≤ t.guards.length ∧ fe ((t.guards.take k).flatMap (gErrs t.reads.length)) = 0) (fun k => t.guards.length - k) 0 ⟨Nat.zero_le _,by simp [fe]⟩ (Shift.sub [] rfl SubE.a SubH.nil) ?_
 rintro k ⟨hk,hfe⟩
 (refine zR ?_;refine sA ?_;refine fd 1 ?_;(iterate 3 refine sA ?_);refine zN ?_)
 refine zC (fun h => ?_) (fun h => ?_)
 ·refine zS ?_
  have hlt : k < t.guards.length := by simpa using h
  obtain ⟨⟨gk,⟨ak,an⟩,⟨bk,bn⟩⟩,hx⟩ := oc hlt
  have hq := fun h1 => ux (F := gErrs t.reads.length) hfe hx h1 (t.sets.flatMap (sErrs t.reads.length))
  have hpe : checkTxn t = fe (t.guards.flatMap (gErrs t.reads.length) ++ t.sets.flatMap (sErrs t.reads.length)) := by rw [hfin,partErrs]
  clear h
  refine zB ?_
  (refine zR ?_;refine fd 1 ?_;(iterate 6 refine sA ?_);refine zN ?_)
  refine WP.shift (Shift.frzBlk 8 rfl rfl rfl) ?_
  (refine zR ?_;refine fd 0 ?_;refine sA ?_;refine ALK.n (o3 (ref_HoldsOf_fn gk 0 0) (Evs.cons Ev.a (Evs.cons Ev.a (Evs.cons Ev.a Evs.nil)))) rfl ?_;(iterate 5 refine sA ?_);refine zN ?_)
  (refine zR ?_;(iterate 2 refine sA ?_);refine zN ?_)
  refine zC (fun h => ?_) (fun h => ?_)
  ·have t1 : holdsE gk ≠ 0 := by simpa using h
   have h1 : fe (gErrs t.reads.length ⟨gk,⟨ak,an⟩,⟨bk,bn⟩⟩) = holdsE gk := by simp [gErrs,fe,t1]
   have hr : checkTxn t = holdsE gk := (hpe.trans (hq (by rw [h1];exact t1))).trans h1
   (refine zR ?_;(iterate 2 refine sA ?_);refine zN ?_)
   exact zT Tryz.results135
  refine zS ?_
  have t1 : holdsE gk = 0 := by simpa using h
  clear h
  (refine zR ?_;refine fd 1 ?_;refine sA ?_;refine fd 0 ?_;(iterate 2 refine sA ?_);refine ALK.n (o3 (yw ak an t.reads.length) (Evs.cons Ev.a (Evs.cons Ev.a Evs.nil))) rfl ?_;refine sA ?_;refine zN ?_)
  (refine zR ?_;(iterate 2 refine sA ?_);refine zN ?_)
  refine zC (fun h => ?_) (fun h => ?_)
  ·have t2 : checkOp ak an t.reads.length ≠ 0 := by simpa using h
   have h1 : fe (gErrs t.reads.length ⟨gk,⟨ak,an⟩,⟨bk,bn⟩⟩) = checkOp ak an t.reads.length := by simp [gErrs,fe,t1,t2]
   have hr : checkTxn t = checkOp ak an t.reads.length := (hpe.trans (hq (by rw [h1];exact t2))).trans h1
   (refine zR ?_;(iterate 2 refine sA ?_);refine zN ?_)
   exact zT Tryz.results135
  refine zS ?_
  have t2 : checkOp ak an t.reads.length = 0 := by simpa using h
  clear h
  (refine zR ?_;refine fd 3 ?_;refine sA ?_;refine fd 0 ?_;(iterate 2 refine sA ?_);refine ALK.n (o3 (yw bk bn t.reads.length) (Evs.cons Ev.a (Evs.cons Ev.a Evs.nil))) rfl ?_;refine sA ?_;refine zN ?_)
  (refine zR ?_;(iterate 2 refine sA ?_);refine zN ?_)
  refine zC (fun h => ?_) (fun h => ?_)
  ·have t3 : checkOp bk bn t.reads.length ≠ 0 := by simpa using h
   have h1 : fe (gErrs t.reads.length ⟨gk,⟨ak,an⟩,⟨bk,bn⟩⟩) = checkOp bk bn t.reads.length := by simp [gErrs,fe,t1,t2,t3]
   have hr : checkTxn t = checkOp bk bn t.reads.length := (hpe.trans (hq (by rw [h1];exact t3))).trans h1
   (refine zR ?_;(iterate 2 refine sA ?_);refine zN ?_)
   exact zT Tryz.results135
  refine zS ?_
  have t3 : checkOp bk bn t.reads.length = 0 := by simpa using h
  have hnext := u3 (F := gErrs t.reads.length) hfe hx (by simp [gErrs,fe,t1,t2,t3])
  (refine zR ?_;(iterate 3 refine sA ?_);refine zN ?_)
  show ∃ _,_ ∧ _ ∧ _
  exact ⟨k + 1,⟨by omega,hnext⟩,by omega,(Shift.sub [] rfl SubE.a SubH.nil)⟩
 refine zE ?_
 have hg0 : fe (t.guards.flatMap (gErrs t.reads.length)) = 0 := by
  rw [List.take_of_length_le (by simp at h;omega)] at hfe
  exact hfe
 clear h hfe
 have hpe : checkTxn t = fe (t.sets.flatMap (sErrs t.reads.length)) := by rw [hfin,partErrs,ui,if_pos hg0]
 (refine zR ?_;refine sA ?_;refine zN ?_)
 refine zB ?_
 refine WP.loop (fun k : Nat => ⟨[(13,.im (IV.int k)),(1,.im (IV.ptr (cT t)))],[],0⟩) (fun k => k ≤ t.sets.length ∧ fe ((t.sets.take k).flatMap (sErrs t.reads.length)) = 0) (fun k => t.sets.length - k) 0 ⟨Nat.zero_le _,by simp [fe]⟩ (Shift.sub [] rfl SubE.a SubH.nil) ?_
 rintro k ⟨hk,hfe⟩
 (refine zR ?_;refine sA ?_;refine fd 2 ?_;(iterate 3 refine sA ?_);refine zN ?_)
 refine zC (fun h => ?_) (fun h => ?_)
 ·refine zS ?_
  have hlt : k < t.sets.length := by simpa using h
  obtain ⟨⟨key,so,⟨ak,an⟩,⟨bk,bn⟩⟩,hx⟩ := oc hlt
  have hq := fun h1 => ux (F := sErrs t.reads.length) hfe hx h1 []
  rw [List.append_nil] at hq
  clear h
  refine zB ?_
  (refine zR ?_;refine fd 2 ?_;(iterate 6 refine sA ?_);refine zN ?_)
  refine WP.shift (Shift.frzBlk 14 rfl rfl rfl) ?_
  (refine zR ?_;refine fd 1 ?_;refine sA ?_;refine ALK.n (o3 (ref_ReckonOf_fn so 0 0) (Evs.cons Ev.a (Evs.cons Ev.a (Evs.cons Ev.a Evs.nil)))) rfl ?_;(iterate 5 refine sA ?_);refine zN ?_)
  (refine zR ?_;(iterate 2 refine sA ?_);refine zN ?_)
  refine zC (fun h => ?_) (fun h => ?_)
  ·have t1 : reckonE so ≠ 0 := by simpa using h
   have h1 : fe (sErrs t.reads.length ⟨key,so,⟨ak,an⟩,⟨bk,bn⟩⟩) = reckonE so := by simp [sErrs,fe,t1]
   have hr : checkTxn t = reckonE so := (hpe.trans (hq (by rw [h1];exact t1))).trans h1
   (refine zR ?_;(iterate 2 refine sA ?_);refine zN ?_)
   exact zT Tryz.results135
  refine zS ?_
  have t1 : reckonE so = 0 := by simpa using h
  clear h
  (refine zR ?_;refine fd 2 ?_;refine sA ?_;refine fd 0 ?_;(iterate 2 refine sA ?_);refine ALK.n (o3 (yw ak an t.reads.length) (Evs.cons Ev.a (Evs.cons Ev.a Evs.nil))) rfl ?_;refine sA ?_;refine zN ?_)
  (refine zR ?_;(iterate 2 refine sA ?_);refine zN ?_)
  refine zC (fun h => ?_) (fun h => ?_)
  ·have t2 : checkOp ak an t.reads.length ≠ 0 := by simpa using h
   have h1 : fe (sErrs t.reads.length ⟨key,so,⟨ak,an⟩,⟨bk,bn⟩⟩) = checkOp ak an t.reads.length := by simp [sErrs,fe,t1,t2]
   have hr : checkTxn t = checkOp ak an t.reads.length := (hpe.trans (hq (by rw [h1];exact t2))).trans h1
   (refine zR ?_;(iterate 2 refine sA ?_);refine zN ?_)
   exact zT Tryz.results135
  refine zS ?_
  have t2 : checkOp ak an t.reads.length = 0 := by simpa using h
  clear h
  (refine zR ?_;refine fd 4 ?_;refine sA ?_;refine fd 0 ?_;(iterate 2 refine sA ?_);refine ALK.n (o3 (yw bk bn t.reads.length) (Evs.cons Ev.a (Evs.cons Ev.a Evs.nil))) rfl ?_;refine sA ?_;refine zN ?_)
  (refine zR ?_;(iterate 2 refine sA ?_);refine zN ?_)
  refine zC (fun h => ?_) (fun h => ?_)
  ·have t3 : checkOp bk bn t.reads.length ≠ 0 := by simpa using h
   have h1 : fe (sErrs t.reads.length ⟨key,so,⟨ak,an⟩,⟨bk,bn⟩⟩) = checkOp bk bn t.reads.length := by simp [sErrs,fe,t1,t2,t3]
   have hr : checkTxn t = checkOp bk bn t.reads.length := (hpe.trans (hq (by rw [h1];exact t3))).trans h1
   (refine zR ?_;(iterate 2 refine sA ?_);refine zN ?_)
   exact zT Tryz.results135
  refine zS ?_
  have t3 : checkOp bk bn t.reads.length = 0 := by simpa using h
  have hnext := u3 (F := sErrs t.reads.length) hfe hx (by simp [sErrs,fe,t1,t2,t3])
  (refine zR ?_;(iterate 3 refine sA ?_);refine zN ?_)
  show ∃ _,_ ∧ _ ∧ _
  exact ⟨k + 1,⟨by omega,hnext⟩,by omega,(Shift.sub [] rfl SubE.a SubH.nil)⟩
 refine zE ?_
 have hr : checkTxn t = 0 := by
  rw [hpe]
  rw [List.take_of_length_le (by simp at h;omega)] at hfe
  exact hfe
 clear h hfe
 (refine zR ?_;refine sA ?_;refine zN ?_)
 exact zT Tryz.results135
end Go.Proofs.YtjgmbgfcffnanaaGreatDoor
