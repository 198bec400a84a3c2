/- The contracts that were proved by the elder walks, in the logic's form. The reference: CheckTxn, by the logic. Small functions of the reference, lists of transactions, plans. Plans: package place and the reference's part. -/
import Derived.Test.YtjgmbgfcffnanabGreatDoorZ1
import Derived.Test.YtjgmbgfcffnanabGreatDoorZ2
import Derived.Test.YtjgmbgfcffnanabGreatDoorZ5
set_option maxRecDepth 100000
namespace Go.Proofs.YtjgmbgfcffnanabGreatDoor
open Go.RowKit
def cI (x : Int) : List IV := [IV.int x]
def cG (g : Guard) : List IV := [IV.int g.kind,IV.int g.a.kind,IV.int g.a.n,IV.int g.b.kind,IV.int g.b.n]
def cS (s : SetT) : List IV := [IV.int s.key,IV.int s.op,IV.int s.a.kind,IV.int s.a.n,IV.int s.b.kind,IV.int s.b.n]
def cT (t : Txn) : List IV := [IV.view 1 cI t.reads,IV.view 5 cG t.guards,IV.view 6 cS t.sets]
abbrev txnV (t : Txn) : IV := IV.agg (cT t)
abbrev intsV (xs : List Int) : IV := IV.view 1 cI xs
def cR (r : Res) : List IV := [IV.bool r.done,intsV r.vals]
abbrev resV (r : Res) : IV := IV.agg (cR r)
def TxnB (t : Txn) : Prop := t.sets.length * 48 ≤ 140737488351232
theorem view_rd {α : Type} {μ : Mem} {w : World} (ha : Agr μ w) {k : Nat} {enc : α → List IV} {enc' : α → List Value} (he : ∀ x,enc x = (enc' x).map IV.val) (hne : ∀ x,enc' x ≠ []) {xs : List α} {v : Value} (h : (IV.view k enc xs).p μ v) :
 ∃ A c,v = .slice A xs.length c ∧ xs.length ≤ c ∧ c ≤ maxLen ∧ Rd k enc' w A xs.length xs := by
 obtain ⟨A,c,e,h1,h2,h3⟩ := h
 refine ⟨A,c,e,h1,h2,rfl,?_⟩
 rcases h3 with h3 | ⟨b,o,hA,h3⟩
 ·exact .inl h3
 ·by_cases h0 : xs = []
  ·exact .inl h0
  ·have key : ∀ i x,xs[i]? = some x → ∀ j u,(enc' x)[j]? = some u → w.cell? ⟨b,o + i * k + j,none⟩ = some u := fun i x hx j u hu => by
    obtain ⟨cs,v',k1,k2,k3,_⟩ := h3 i x hx j (IV.val u) (by rw [he,List.getElem?_map,hu];rfl)
    obtain ⟨t,fz,hh⟩ := ha b cs k1
    simp only [World.cell?,hh]
    rw [k2];exact congrArg some k3
   refine .inr ⟨b,o,hA,?_,key⟩
   obtain ⟨x,xs',rfl⟩ := List.exists_cons_of_ne_nil h0
   obtain ⟨u,us,hu⟩ := List.exists_cons_of_ne_nil (hne x)
   exact World.block_lt_of_cell? w _ (key 0 x rfl 0 u (by rw [hu];rfl))
theorem own_freeze {α : Type} {E k B : Nat} {μ : Mem} {w : World} (ha : Agr μ w) {enc : α → List IV} {enc' : α → List Value} (he : ∀ x,enc x = (enc' x).map IV.val) (hk : ∀ x,(enc' x).length = k) (h1 : ∀ x,One (enc' x)) {v : Value} {xs : List α} (h : Own E k enc' w B v xs) :
 ∃ μ',Mem.le μ μ' ∧ (∀ b,μ' b ≠ none → μ b ≠ none ∨ B ≤ b) ∧ Agr μ' w ∧ (IV.view k enc xs).p μ' v := by
 rcases h.2 with ⟨rfl,hn⟩ | ⟨g,cap,cur,rfl,hg,hh,hnc,hcm,hcs,htake⟩
 ·have : xs = [] := List.eq_nil_of_length_eq_zero hn
  subst this
  exact ⟨μ,Mem.le.refl _,fun b hb => .inl hb,ha,none,0,rfl,Nat.le_refl _,by simp [maxLen],.inl rfl⟩
 ·have hle : Mem.le μ (μ.add g cur) := fun b c hb => by
   unfold Mem.add
   by_cases e : b = g
   ·subst e
    obtain ⟨t,fz,hh2⟩ := ha b c hb
    rw [hh] at hh2
    injection hh2 with hh2
    injection hh2 with hh2
    rw [if_pos rfl,hh2]
   ·rw [if_neg e];exact hb
  refine ⟨μ.add g cur,hle,fun b hb => ?_,fun b c hb => ?_,_,cap,rfl,hnc,hcm,.inr ⟨g,0,rfl,fun i x hx j s hj => ?_⟩⟩
  ·unfold Mem.add at hb
   by_cases e : b = g
   ·exact .inr (e ▸ hg)
   ·rw [if_neg e] at hb;exact .inl hb
  ·unfold Mem.add at hb
   by_cases e : b = g
   ·rw [if_pos e] at hb;injection hb with hb;subst hb;subst e;exact ⟨_,_,hh⟩
   ·rw [if_neg e] at hb;exact ha b c hb
  ·rw [he,List.getElem?_map,Option.map_eq_some_iff] at hj
   obtain ⟨u,hu,rfl⟩ := hj
   have h2 := flat_at hk xs i x hx j u hu
   refine ⟨cur,u,by unfold Mem.add;rw [if_pos rfl],?_,rfl,h1 x u (List.mem_of_getElem? hu)⟩
   rw [← htake,List.getElem?_take] at h2
   split at h2
   ·rw [Nat.zero_add];simpa using h2
   ·cases h2
theorem Stp.of_below {μ : Mem} {w w' : World} (ha : Agr μ w) (hb : Below w.heap.size w w') : Stp μ w μ w' :=
 ⟨hb,Mem.le.refl _,fun _ h => .inl h,fun b cs h => by obtain ⟨t,fz,hh⟩ := ha b cs h;exact ⟨t,fz,(hb.block b (Array.getElem?_eq_some_iff.1 hh).1).trans hh⟩⟩
theorem stp_more {μ μ' : Mem} {w w' : World} (h : Stp μ w μ w') (hle : Mem.le μ μ') (hn : ∀ b,μ' b ≠ none → μ b ≠ none ∨ w.heap.size ≤ b) (ha : Agr μ' w') : Stp μ w μ' w' := ⟨h.below,hle,hn,ha⟩
theorem Fn.plain {C : Cfg} {f : FuncId} {fn : Func} {args : List IV} {u : Value} (hf : C.P.funcs[f]? = some fn) (hb : fn.body.isNone = false) (hn : (fn.name == "runtime.NumGoroutine") = false)
 (h : ∀ μ w vs,IVs μ args vs → Agr μ w → Calls C.P f vs.toArray w fun e w' => e = .returned u ∧ Below w.heap.size w w') : Fn C f args (IV.val u) :=
 ⟨⟨fn,hf,hb,hn⟩,fun μ w vs hv ha => (h μ w vs hv ha).mono fun _ _ ⟨he,hb⟩ => ⟨u,μ,he,rfl,Stp.of_below ha hb⟩⟩
theorem cI_val (x : Int) : cI x = (encI x).map IV.val := rfl
theorem cG_val (x : Guard) : cG x = (encG x).map IV.val := rfl
theorem cS_val (x : SetT) : cS x = (encS x).map IV.val := rfl
theorem txn_at {μ : Mem} {w : World} (ha : Agr μ w) {t : Txn} (hb : TxnB t) {v : Value} (h : (txnV t).p μ v) : ∃ ra rc ga gc sa sc,v = .agg #[.slice ra t.reads.length rc,.slice ga t.guards.length gc,.slice sa t.sets.length sc] ∧ TxnAt w ra t.reads.length ga t.guards.length sa t.sets.length t := by
 obtain ⟨vs,rfl,⟨v0,_,e0,h0,v1,_,e1,h1,v2,_,e2,h2,e3⟩,_⟩ := h
 subst e0 e1 e2 e3
 obtain ⟨ra,rc,rfl,l1,l2,r1⟩ := view_rd ha cI_val (fun _ => by simp [encI]) h0
 obtain ⟨ga,gc,rfl,l3,l4,r2⟩ := view_rd ha cG_val (fun _ => by simp [encG]) h1
 obtain ⟨sa,sc,rfl,_,_,r3⟩ := view_rd ha cS_val (fun _ => by simp [encS]) h2
 exact ⟨ra,rc,ga,gc,sa,sc,rfl,r1,r2,r3,by simp only [maxLen] at l2;omega,by simp only [maxLen] at l4;omega,hb⟩
theorem txn_Check_fn (t : Txn) (hb : TxnB t) : Fn CC 61 [txnV t] (IV.int (checkTxn t)) :=
 Fn.plain Tryz.func61 rfl (by kernel_rfl) fun μ w vs ⟨v0,_,e0,h0,e1⟩ ha => by
  subst e0 e1
  obtain ⟨ra,rc,ga,gc,sa,sc,rfl,h⟩ := txn_at ha hb h0
  exact txn_Check _ _ _ _ _ _ _ _ _ t w h
theorem txn_Keys_fn (t : Txn) (hb : TxnB t) : Fn CC 82 [txnV t] (intsV (keysOf t)) :=
 ⟨⟨_,Tryz.func82,rfl,by kernel_rfl⟩,fun μ w vs ⟨v0,_,e0,h0,e1⟩ ha => by
  subst e0 e1
  obtain ⟨ra,rc,ga,gc,sa,sc,rfl,h⟩ := txn_at ha hb h0
  refine (txn_Keys _ _ _ _ _ _ _ _ _ t w h).mono ?_
  rintro e w' ⟨v,rfl,ho,hb⟩
  have hs := Stp.of_below ha hb
  obtain ⟨μ',k1,k2,k3,k4⟩ := own_freeze hs.agr cI_val encI_len oneI ho
  exact ⟨v,μ',rfl,k4,stp_more hs k1 k2 k3⟩⟩
theorem do_stp {μ : Mem} {w w' : World} {r1 r2 : List Int} {b : Bool} {v1 v2 : Value} {E : TypeId} (ha : Agr μ w) (hb : Below w.heap.size w w') (h1 : Own E 1 encI w' w.heap.size v1 r1) (h2 : Own E 1 encI w' w.heap.size v2 r2) :
 ∃ v μ',Ending.returned (.tuple #[.agg #[.bool b,v1],v2]) = .returned v ∧ (IV.tup [resV ⟨b,r1⟩,intsV r2]).p μ' v ∧ Stp μ w μ' w' := by
 have hs := Stp.of_below ha hb
 obtain ⟨μ',k1,k2,k3,k4⟩ := own_freeze hs.agr cI_val encI_len oneI h1
 obtain ⟨ν,m1,m2,m3,m4⟩ := own_freeze k3 cI_val encI_len oneI h2
 have ho : v1.oneCell' = true := by obtain ⟨A,c,e,_⟩ := k4;rw [e];rfl
 refine ⟨_,ν,rfl,⟨[.agg #[.bool b,v1],v2],rfl,_,_,rfl,⟨[.bool b,v1],rfl,⟨_,_,rfl,rfl,_,_,rfl,IV.mono _ m1 k4,rfl⟩,?_⟩,_,_,rfl,m4,rfl⟩,stp_more hs (k1.trans m1) (fun b hb => (m2 b hb).elim (k2 b) .inr) m3⟩
 intro u hu
 simp only [List.mem_cons,List.not_mem_nil,or_false] at hu
 rcases hu with rfl | rfl
 ·rfl
 ·exact ho
theorem txn_Do_fn (t : Txn) (xs : List Int) (hb : TxnB t) (hok : checkTxn t = 0) (hx : xs.length = t.reads.length) : Fn CC 75 [txnV t,intsV xs] (IV.tup [resV ⟨runDone t xs,xs⟩,intsV (runSets t xs)]) :=
 ⟨⟨_,Tryz.func75,rfl,by kernel_rfl⟩,fun μ w vs ⟨v0,_,e0,h0,v1,_,e1,h1,e2⟩ ha => by
  subst e0 e1 e2
  obtain ⟨ra,rc,ga,gc,sa,sc,rfl,h⟩ := txn_at ha hb h0
  obtain ⟨xa,xc,rfl,_,_,hr⟩ := view_rd ha cI_val (fun _ => by simp [encI]) h1
  rw [hx] at hr
  rw [hx]
  refine (txn_Do _ _ _ _ _ _ _ _ _ t _ _ xs w h hr hok).mono ?_
  rintro e w' ⟨v1,v2,rfl,o1,o2,hb⟩
  exact do_stp ha hb o1 o2⟩
theorem get_at {α : Type} {xs : List α} {k : Nat} (h : k < xs.length) : ∃ x,xs[k]? = some x := ⟨_,List.getElem?_eq_getElem h⟩
def cB (b : Bool) : List IV := [IV.bool b]
abbrev boolsV (xs : List Bool) : IV := IV.view 1 cB xs
abbrev txsV (l : List Txn) : IV := IV.view 3 cT l
def TxsB (l : List Txn) : Prop := ∀ t ∈ l,TxnB t
theorem store_Txns_fn (l : List Txn) (hb : TxsB l) : Fn CC 22 [txsV l] (IV.int (checkTxns l)) := by
 refine Fn.of_wp _ Tryz.func22 rfl (by kernel_rfl) Tryz.ntmps22 rfl ?_
 intro F hD hG
 refine WP.len 0 rfl (fun hl1 => ?_)
 (refine zR ?_;refine sA ?_;refine zN ?_)
 (refine zR ?_;(iterate 3 refine sA ?_);refine zN ?_)
 refine zC (fun h => ?_) (fun h => ?_)
 ·(refine zR ?_;refine sA ?_;refine zN ?_)
  have hr : checkTxns l = 2 := by unfold checkTxns;rw [if_pos (by simp at h;omega)]
  exact zT Tryz.results22
 refine zS ?_
 have hdef : checkTxns l = fe (l.flatMap txErrs) := by unfold checkTxns;rw [if_neg (by simp at h;omega)]
 (refine zR ?_;(iterate 3 refine sA ?_);refine zN ?_)
 refine zB ?_
 refine WP.loop (fun k : Nat => ⟨[(11,.im (IV.int k)),(9,.im (txsV l)),(10,.im (IV.int l.length))],[],0⟩) (fun k => k ≤ l.length ∧ fe ((l.take k).flatMap txErrs) = 0) (fun k => l.length - k) 0 ⟨Nat.zero_le _,rfl⟩ (Shift.sub [] rfl SubE.a SubH.nil) ?_
 rintro k ⟨hk,he⟩
 (refine zR ?_;refine sA ?_;refine zN ?_)
 refine zC (fun h => ?_) (fun h => ?_)
 ·refine zS ?_
  have hlt : k < l.length := by simpa using h
  obtain ⟨t,ht⟩ := get_at hlt
  have hbt : TxnB t := hb t (List.mem_of_getElem? ht)
  refine zB ?_
  (refine zR ?_;(iterate 4 refine sA ?_);refine zN ?_)
  (refine zR ?_;refine sA ?_;refine ALK.n (opn_call (txn_Check_fn _ (by assumption)) (Evs.cons Ev.a Evs.nil)) rfl ?_;refine sA ?_;refine zN ?_)
  (refine zR ?_;(iterate 2 refine sA ?_);refine zN ?_)
  refine zC (fun h => ?_) (fun h => ?_)
  ·(refine zR ?_;(iterate 2 refine sA ?_);refine zN ?_)
   have hr : checkTxns l = checkTxn t := by
    have := fe_flat_at (F := txErrs) he ht (by rw [txErrs,fe_one];simpa using h) []
    rw [List.append_nil,txErrs,fe_one] at this
    exact hdef.trans this
   exact zT Tryz.results22
  refine zS ?_
  (refine zR ?_;(iterate 2 refine sA ?_);refine zN ?_)
  show ∃ _,_ ∧ _ ∧ _
  exact ⟨k + 1,⟨by omega,fe_flat_next (F := txErrs) he ht (by rw [txErrs,fe_one];simpa using h)⟩,by omega,(Shift.sub [] rfl SubE.a SubH.nil)⟩
 ·refine zE ?_
  (refine zR ?_;refine sA ?_;refine zN ?_)
  have hr : checkTxns l = 0 := by
   have : ¬ k < l.length := by simpa using h
   rw [List.take_of_length_le (by omega)] at he
   exact hdef.trans he
  exact zT Tryz.results22
structure Plan where
 shards : Int
 txns : List Txn
def cP (p : Plan) : List IV := [IV.int p.shards,txsV p.txns]
abbrev planV (p : Plan) : IV := IV.agg (cP p)
def checkPlan (p : Plan) : Int := if p.shards < 1 ∨ 4 < p.shards then 3 else checkTxns p.txns
theorem checkPlan_zero {p : Plan} (h : checkPlan p = 0) : 1 ≤ p.shards ∧ p.shards ≤ 4 ∧ checkTxns p.txns = 0 := by
 unfold checkPlan at h
 split at h
 ·cases h
 ·exact ⟨by omega,by omega,h⟩
theorem checkTxns_zero {l : List Txn} (h : checkTxns l = 0) : l.length ≤ 8 ∧ ∀ t ∈ l,checkTxn t = 0 := by
 unfold checkTxns at h
 split at h
 ·cases h
 ·refine ⟨by omega,fun t ht => fe_zero.1 h _ (List.mem_flatMap.2 ⟨t,ht,by simp [txErrs]⟩)⟩
theorem place_Check_fn (p : Plan) (hb : TxsB p.txns) : Fn CC 9 [planV p] (IV.int (checkPlan p)) := by
 refine Fn.of_wp _ Tryz.func9 rfl (by kernel_rfl) Tryz.ntmps9 rfl ?_
 intro F hD hG
 (refine zR ?_;(iterate 2 refine sA ?_);refine zN ?_)
 (refine zR ?_;refine fd 0 ?_;(iterate 3 refine sA ?_);refine gF 0 ?_;(iterate 2 refine gA ?_);refine sA ?_;refine zN ?_)
 refine zC (fun h => ?_) (fun h => ?_)
 ·(refine zR ?_;refine sA ?_;refine zN ?_)
  have hr : checkPlan p = 3 := by unfold checkPlan;rw [if_pos (by simpa using h)]
  exact zT Tryz.results9
 refine zS ?_
 (refine zR ?_;refine fd 1 ?_;refine sA ?_;refine ALK.n (opn_call (store_Txns_fn _ (by assumption)) (Evs.cons Ev.a Evs.nil)) rfl ?_;refine sA ?_;refine zN ?_)
 have hr : checkPlan p = checkTxns p.txns := by unfold checkPlan;rw [if_neg (by simp at h;omega)]
 exact zT Tryz.results9
def marks (m : Nat) (ks : List Int) : List Bool := ks.foldl (fun b k => b.set (k % (m : Int)).toNat true) (List.replicate m false)
theorem marks_snoc (m : Nat) (ks : List Int) (k : Int) : marks m (ks ++ [k]) = (marks m ks).set (k % (m : Int)).toNat true := by unfold marks;rw [List.foldl_append];rfl
theorem foldl_len {ks : List Int} {m : Nat} : ∀ {b : List Bool},(ks.foldl (fun b k => b.set (k % (m : Int)).toNat true) b).length = b.length := by
 induction ks with
 | nil => intro b;rfl
 | cons k ks ih => intro b;rw [List.foldl_cons,ih,List.length_set]
theorem marks_length (m : Nat) (ks : List Int) : (marks m ks).length = m := by unfold marks;rw [foldl_len,List.length_replicate]
theorem marks_at (m : Nat) (ks : List Int) (j : Nat) (hj : j < m) : (marks m ks)[j]? = some (ks.any fun k => (k % (m : Int)).toNat == j) := by
 unfold marks
 have key : ∀ (ks : List Int) (b : List Bool),b.length = m → ∀ v,b[j]? = some v → (ks.foldl (fun b k => b.set (k % (m : Int)).toNat true) b)[j]? = some (v || ks.any fun k => (k % (m : Int)).toNat == j) := by
  intro ks
  induction ks with
  | nil => intro b hb v hv;simpa using hv
  | cons k ks ih =>
   intro b hb v hv
   rw [List.foldl_cons,ih _ (by rw [List.length_set];exact hb) (v || (k % (m : Int)).toNat == j)]
   ·rw [List.any_cons,Bool.or_assoc]
   ·rw [List.getElem?_set]
    by_cases e : (k % (m : Int)).toNat = j
    ·rw [if_pos e,if_pos (by omega)];simp [e]
    ·rw [if_neg e,hv]
     have : ((k % (m : Int)).toNat == j) = false := by simpa using e
     rw [this,Bool.or_false]
 have := key ks (List.replicate m false) (List.length_replicate ..) false (by simp [hj])
 simpa using this
def cKs (ks : List Int) : List IV := [intsV ks]
theorem where_fn (p : Plan) (m : Nat) (kss : List (List Int)) (hp : p.shards = m) (h1 : 1 ≤ m) (h4 : m ≤ 4) (hk : ∀ ks ∈ kss,∀ k ∈ ks,0 ≤ k) : Fn CC 141 [planV p,IV.view 1 cKs kss] (boolsV (marks m kss.flatten)) := by
 refine Fn.of_wp _ Tryz.func141 rfl (by kernel_rfl) Tryz.ntmps141 rfl ?_
 intro F hD hG
 refine WP.len 1 rfl (fun hl1 => ?_)
 (refine zR ?_;(iterate 2 refine sA ?_);refine zN ?_)
 (refine zR ?_;refine fd 0 ?_;refine sA ?_;refine ALK.a (opa_make (n := m) (b := 1) (enc := cB) false rfl rfl (fun _ => rfl) rfl rfl rfl (Ev.of (eB rfl) (ImOf.im (ILe.int hp))) (Ev.of (eB rfl) (ImOf.im (ILe.int hp))) rfl (by omega) (by omega)) rfl ?_;refine sA ?_;refine zN ?_)
 (refine zR ?_;(iterate 3 refine sA ?_);refine zN ?_)
 refine zB ?_
 refine WP.loop (fun k : Nat => ⟨[(15,.im (IV.int k)),(13,.im (IV.view 1 cKs kss)),(14,.im (IV.int kss.length)),(2,.im (IV.ptr (cP p))),(5,.row 0 m)],[(0,.row 4 1 cB (marks m (kss.take k).flatten))],1⟩) (fun k => k ≤ kss.length) (fun k => kss.length - k) 0 (Nat.zero_le _) (Shift.sub [(0,0)] rfl SubE.a SubH.a) ?_
 rintro k hkk
 (refine zR ?_;refine sA ?_;refine zN ?_)
 refine zC (fun h => ?_) (fun h => ?_)
 ·refine zS ?_
  have hlt : k < kss.length := by simpa using h
  obtain ⟨ks,hks⟩ := get_at hlt
  have hks0 := hk ks (List.mem_of_getElem? hks)
  refine zB ?_
  (refine zR ?_;(iterate 3 refine sA ?_);refine zN ?_)
  refine WP.len 7 rfl (fun hl2 => ?_)
  (refine zR ?_;(iterate 3 refine sA ?_);refine zN ?_)
  refine zB ?_
  refine WP.loop (fun j : Nat => ⟨[(21,.im (IV.int j)),(19,.im (intsV ks)),(20,.im (IV.int ks.length)),(15,.im (IV.int k)),(13,.im (IV.view 1 cKs kss)),(14,.im (IV.int kss.length)),(2,.im (IV.ptr (cP p))),(5,.row 0 m)],[(0,.row 4 1 cB (marks m ((kss.take k).flatten ++ ks.take j)))],1⟩) (fun j => j ≤ ks.length) (fun j => ks.length - j) 0 (Nat.zero_le _) (Shift.sub [(0,0)] rfl SubE.a (SubH.cons rfl rfl (ObLe.row (by simp)) SubH.nil)) ?_
  rintro j hj
  (refine zR ?_;refine sA ?_;refine zN ?_)
  refine zC (fun h => ?_) (fun h => ?_)
  ·refine zS ?_
   have hjl : j < ks.length := by simpa using h
   obtain ⟨x,hx⟩ := get_at hjl
   have hx0 := hks0 x (List.mem_of_getElem? hx)
   have hm0 : 0 ≤ x % (m : Int) := Int.emod_nonneg _ (by omega)
   have hm1 : x % (m : Int) < (m : Int) := Int.emod_lt_of_pos _ (by omega)
   have hst : (x % (m : Int)).toNat < (marks m ((kss.take k).flatten ++ ks.take j)).length := by rw [marks_length];omega
   refine zB ?_
   (refine zR ?_;(iterate 3 refine sA ?_);refine zN ?_)
   (refine zR ?_;(iterate 2 refine sA ?_);refine fd 0 ?_;refine sA ?_;refine ALK.n (opn_rem (eB rfl) (Ev.of (eB rfl) (ImOf.im (ILe.int hp))) hx0 (by omega)) rfl ?_;refine ALK.n (opn_indexRow1 rfl (eB rfl) (eB rfl) hm0 hm1) rfl ?_;refine ALK.e (ope_storeRow rfl rfl (eB rfl) (eB rfl) (oc_val rfl) rfl rfl hst) rfl rfl ?_;refine zN ?_)
   (refine zR ?_;(iterate 2 refine sA ?_);refine zN ?_)
   show ∃ _,_ ∧ _ ∧ _
   refine ⟨j + 1,by omega,by omega,Shift.sub [(0,0)] rfl SubE.a (SubH.cons rfl rfl (ObLe.row ?_) SubH.nil)⟩
   rw [take_push hx,← List.append_assoc,marks_snoc]
  ·refine zE ?_
   have hj2 : j = ks.length := by have : ¬ j < ks.length := by simpa using h
                                  omega
   subst hj2
   (refine zR ?_;(iterate 2 refine sA ?_);refine zN ?_)
   show ∃ _,_ ∧ _ ∧ _
   refine ⟨k + 1,by omega,by omega,Shift.sub [(0,0)] rfl SubE.a (SubH.cons rfl rfl (ObLe.row ?_) SubH.nil)⟩
   rw [take_push hks,List.flatten_append,List.take_length];simp
 ·refine zE ?_
  have hk2 : k = kss.length := by have : ¬ k < kss.length := by simpa using h
                                  omega
  subst hk2
  (refine zR ?_;(iterate 2 refine sA ?_);refine zN ?_)
  refine WP.shift (Shift.frzRow 4 rfl rfl) ?_
  rw [List.take_length]
  exact zT Tryz.results141
theorem right_keys {t : Txn} (h : checkTxn t = 0) : (∀ k ∈ t.reads,0 ≤ k ∧ k < 8) ∧ ∀ k ∈ keysOf t,0 ≤ k ∧ k < 8 := by
 have h2 := (right_parts h).2.1
 have key : ∀ k ∈ t.reads ++ keysOf t,0 ≤ k ∧ k < 8 := fun k hk => by
  have := h2 k hk
  simp only [isKeyB,Bool.and_eq_true,decide_eq_true_eq] at this
  omega
 exact ⟨fun k hk => key k (List.mem_append_left _ hk),fun k hk => key k (List.mem_append_right _ hk)⟩
def partL (m : Nat) (t : Txn) : List Bool := marks m (t.reads ++ keysOf t)
def actL (m : Nat) (t : Txn) : List Bool := marks m (keysOf t)
theorem place_Parts_fn (p : Plan) (m : Nat) (n : Int) (t : Txn) (hp : p.shards = m) (h1 : 1 ≤ m) (h4 : m ≤ 4) (h0 : 0 ≤ n) (ht : p.txns[n.toNat]? = some t) (hbt : TxnB t) (hok : checkTxn t = 0) : Fn CC 117 [planV p,IV.int n] (IV.tup [boolsV (partL m t),boolsV (actL m t)]) := by
 have hk := right_keys hok
 have k2 : ∀ ks ∈ [keysOf t],∀ k ∈ ks,(0 : Int) ≤ k := fun ks h k hk2 => by
  rw [List.mem_singleton] at h;subst h;exact (hk.2 k hk2).1
 have k1 : ∀ ks ∈ [t.reads,keysOf t],∀ k ∈ ks,(0 : Int) ≤ k := fun ks h k hk2 => by
  rcases List.mem_cons.1 h with h | h
  ·subst h;exact (hk.1 k hk2).1
  ·exact k2 ks h k hk2
 refine Fn.of_wp _ Tryz.func117 rfl (by kernel_rfl) Tryz.ntmps117 rfl ?_
 intro F hD hG
 (refine zR ?_;(iterate 3 refine sA ?_);refine zN ?_)
 (refine zR ?_;refine fd 1 ?_;(iterate 6 refine sA ?_);refine zN ?_)
 refine WP.shift (Shift.frzBlk 6 rfl rfl rfl) ?_
 (refine zW ?_;refine sA ?_;refine fd 0 ?_;(iterate 2 refine sA ?_);refine ALK.n (opn_call (txn_Keys_fn _ (by assumption)) (Evs.cons Ev.a Evs.nil)) rfl ?_;refine ALK.n (opn_slit rfl rfl rfl rfl rfl rfl (Pc rfl (eB rfl) Cs.a rfl rfl (Pc rfl (eB rfl) Cs.a rfl rfl Parts.nil)) rfl) rfl ?_;refine ALK.n (opn_call (where_fn p m [t.reads,keysOf t] hp h1 h4 k1) (Evs.cons Ev.a (Evs.cons Ev.a Evs.nil))) rfl ?_;(iterate 2 refine sA ?_);refine ALK.n (opn_call (txn_Keys_fn _ (by assumption)) (Evs.cons Ev.a Evs.nil)) rfl ?_;refine ALK.n (opn_slit rfl rfl rfl rfl rfl rfl (Pc rfl (eB rfl) Cs.a rfl rfl Parts.nil) rfl) rfl ?_;refine ALK.n (opn_call (where_fn p m [keysOf t] hp h1 h4 k2) (Evs.cons Ev.a (Evs.cons Ev.a Evs.nil))) rfl ?_;(iterate 2 refine sA ?_);refine zD ?_)
 have e1 : boolsV (marks m [t.reads,keysOf t].flatten) = boolsV (partL m t) := by unfold partL;simp
 have e2 : boolsV (marks m [keysOf t].flatten) = boolsV (actL m t) := by unfold actL;simp
 exact zT Tryz.results117
end Go.Proofs.YtjgmbgfcffnanabGreatDoor
