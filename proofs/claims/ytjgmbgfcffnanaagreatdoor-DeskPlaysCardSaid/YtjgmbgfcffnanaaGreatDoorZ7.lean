/- Small functions of the reference, lists of transactions, plans. Plans: package place and the reference's part. -/
import Derived.Test.YtjgmbgfcffnanaaGreatDoorZ6
set_option maxRecDepth 100000
namespace Go.Proofs.YtjgmbgfcffnanaaGreatDoor
open Go.RowKit
theorem SameInts_fn (xs ys : List Int) : Fn CC 109 [intsV xs,intsV ys] (IV.bool (decide (xs = ys))) := by
 refine Fn.of_wp _ Tryz.func109 rfl (by kernel_rfl) Tryz.ntmps109 rfl ?_
 intro F hD hG
 refine WP.len 0 rfl (fun hl1 => ?_)
 refine WP.len 1 rfl (fun hl2 => ?_)
 (refine zR ?_;refine sA ?_;refine zN ?_)
 (refine zR ?_;(iterate 5 refine sA ?_);refine zN ?_)
 refine zC (fun h => ?_) (fun h => ?_)
 ·(refine zR ?_;refine sA ?_;refine zN ?_)
  have hr : decide (xs = ys) = false := by
   simp only [bne_iff_ne,ne_eq] at h
   exact decide_eq_false fun e => h (by rw [e])
  exact zT Tryz.results109
 refine zS ?_
 have hlen : xs.length = ys.length := by simp at h;omega
 (refine zR ?_;refine sA ?_;refine zN ?_)
 refine zB ?_
 refine WP.loop (fun k : Nat => ⟨[(5,.im (IV.int k)),(0,.im (intsV xs)),(1,.im (intsV ys))],[],0⟩) (fun k => k ≤ xs.length ∧ xs.take k = ys.take k) (fun k => xs.length - k) 0 ⟨Nat.zero_le _,rfl⟩ (Shift.sub [] rfl SubE.a SubH.nil) ?_
 rintro k ⟨hk,he⟩
 (refine zR ?_;(iterate 4 refine sA ?_);refine zN ?_)
 refine zC (fun h => ?_) (fun h => ?_)
 ·refine zS ?_
  have hlt : k < xs.length := by simpa using h
  obtain ⟨x,hx⟩ := oc hlt
  obtain ⟨y,hy⟩ := oc (xs := ys) (k := k) (by omega)
  refine zB ?_
  (refine zW ?_;(iterate 9 refine sA ?_);refine zD ?_)
  refine zC (fun h => ?_) (fun h => ?_)
  ·(refine zR ?_;refine sA ?_;refine zN ?_)
   have hr : decide (xs = ys) = false := by
    refine decide_eq_false fun e => ?_
    subst e
    rw [hx] at hy
    injection hy with hy
    subst hy
    simp at h
   exact zT Tryz.results109
  refine zS ?_
  (refine zR ?_;(iterate 3 refine sA ?_);refine zN ?_)
  show ∃ _,_ ∧ _ ∧ _
  refine ⟨k + 1,⟨by omega,?_⟩,by omega,(Shift.sub [] rfl SubE.a SubH.nil)⟩
  rw [List.take_add_one,List.take_add_one,he,hx,hy]
  simp at h
  rw [h]
 ·refine zE ?_
  (refine zR ?_;refine sA ?_;refine zN ?_)
  have hr : decide (xs = ys) = true := by
   have : ¬ k < xs.length := by simpa using h
   rw [List.take_of_length_le (by omega),List.take_of_length_le (by omega)] at he
   exact decide_eq_true he
  exact zT Tryz.results109
def cB (b : Bool) : List IV := [IV.bool b]
abbrev boolsV (xs : List Bool) : IV := IV.view 1 cB xs
def readsB (t : Txn) (k : Int) : Bool := t.reads.any (· == k)
def writesB (t : Txn) (k : Int) : Bool := (keysOf t).any (· == k)
theorem any_take {α : Type} {p : α → Bool} {xs : List α} {k : Nat} {x : α} (hx : xs[k]? = some x) (h : (xs.take k).any p = false) (hp : p x = false) : (xs.take (k + 1)).any p = false := by
 rw [yI hx,List.any_append,h];simp [hp]
theorem any_at {α : Type} {p : α → Bool} {xs : List α} {k : Nat} {x : α} (hx : xs[k]? = some x) (hp : p x = true) : xs.any p = true := List.any_eq_true.2 ⟨x,List.mem_of_getElem? hx,hp⟩
theorem jf (t : Txn) (key : Int) : Fn CC 138 [txnV t,IV.int key] (IV.bool (readsB t key)) := by
 refine Fn.of_wp _ Tryz.func138 rfl (by kernel_rfl) Tryz.ntmps138 rfl ?_
 intro F hD hG
 (refine zR ?_;(iterate 2 refine sA ?_);refine zN ?_)
 (refine zR ?_;refine sA ?_;refine zN ?_)
 refine zB ?_
 refine WP.loop (fun k : Nat => ⟨[(5,.im (IV.int k)),(1,.im (IV.int key)),(2,.im (IV.ptr (cT t)))],[],0⟩) (fun k => k ≤ t.reads.length ∧ (t.reads.take k).any (· == key) = false) (fun k => t.reads.length - k) 0 ⟨Nat.zero_le _,rfl⟩ (Shift.sub [] rfl SubE.a SubH.nil) ?_
 rintro k ⟨hk,he⟩
 (refine zR ?_;refine sA ?_;refine fd 0 ?_;(iterate 3 refine sA ?_);refine zN ?_)
 refine WP.len 8 rfl (fun hl => ?_)
 refine zC (fun h => ?_) (fun h => ?_)
 ·refine zS ?_
  have hlt : k < t.reads.length := by simpa using h
  obtain ⟨x,hx⟩ := oc hlt
  refine zB ?_
  (refine zR ?_;refine fd 0 ?_;(iterate 6 refine sA ?_);refine zN ?_)
  refine zC (fun h => ?_) (fun h => ?_)
  ·(refine zR ?_;refine sA ?_;refine zN ?_)
   have hr : readsB t key = true := any_at hx h
   exact zT Tryz.results138
  refine zS ?_
  (refine zR ?_;(iterate 3 refine sA ?_);refine zN ?_)
  show ∃ _,_ ∧ _ ∧ _
  exact ⟨k + 1,⟨by omega,any_take hx he h⟩,by omega,(Shift.sub [] rfl SubE.a SubH.nil)⟩
 ·refine zE ?_
  (refine zR ?_;refine sA ?_;refine zN ?_)
  have hr : readsB t key = false := by
   have : ¬ k < t.reads.length := by simpa using h
   rwa [List.take_of_length_le (by omega)] at he
  exact zT Tryz.results138
theorem u7 (t : Txn) (key : Int) : Fn CC 139 [txnV t,IV.int key] (IV.bool (writesB t key)) := by
 refine Fn.of_wp _ Tryz.func139 rfl (by kernel_rfl) Tryz.ntmps139 rfl ?_
 intro F hD hG
 (refine zR ?_;(iterate 2 refine sA ?_);refine zN ?_)
 (refine zR ?_;refine sA ?_;refine zN ?_)
 refine zB ?_
 refine WP.loop (fun k : Nat => ⟨[(5,.im (IV.int k)),(1,.im (IV.int key)),(2,.im (IV.ptr (cT t)))],[],0⟩) (fun k => k ≤ t.sets.length ∧ (t.sets.take k).any (·.key == key) = false) (fun k => t.sets.length - k) 0 ⟨Nat.zero_le _,rfl⟩ (Shift.sub [] rfl SubE.a SubH.nil) ?_
 rintro k ⟨hk,he⟩
 (refine zR ?_;refine sA ?_;refine fd 2 ?_;(iterate 3 refine sA ?_);refine zN ?_)
 refine WP.len 8 rfl (fun hl => ?_)
 refine zC (fun h => ?_) (fun h => ?_)
 ·refine zS ?_
  have hlt : k < t.sets.length := by simpa using h
  obtain ⟨x,hx⟩ := oc hlt
  refine zB ?_
  (refine zR ?_;refine fd 2 ?_;(iterate 3 refine sA ?_);refine fd 0 ?_;(iterate 3 refine sA ?_);refine zN ?_)
  refine zC (fun h => ?_) (fun h => ?_)
  ·(refine zR ?_;refine sA ?_;refine zN ?_)
   have hr : writesB t key = true := by
    unfold writesB keysOf;rw [List.any_map];exact any_at (p := fun s : SetT => s.key == key) hx h
   exact zT Tryz.results139
  refine zS ?_
  (refine zR ?_;(iterate 3 refine sA ?_);refine zN ?_)
  show ∃ _,_ ∧ _ ∧ _
  exact ⟨k + 1,⟨by omega,any_take (p := fun s : SetT => s.key == key) hx he h⟩,by omega,(Shift.sub [] rfl SubE.a SubH.nil)⟩
 ·refine zE ?_
  (refine zR ?_;refine sA ?_;refine zN ?_)
  have hr : writesB t key = false := by
   have : ¬ k < t.sets.length := by simpa using h
   rw [List.take_of_length_le (by omega)] at he
   unfold writesB keysOf;rw [List.any_map];exact he
  exact zT Tryz.results139
abbrev txsV (l : List Txn) : IV := IV.view 3 cT l
def TxsB (l : List Txn) : Prop := ∀ t ∈ l,TxnB t
theorem vj (l : List Txn) (hb : TxsB l) : Fn CC 79 [txsV l] (IV.int (checkTxns l)) := by
 refine Fn.of_wp _ Tryz.func79 rfl (by kernel_rfl) Tryz.ntmps79 rfl ?_
 intro F hD hG
 refine WP.len 0 rfl (fun hl1 => ?_)
 (refine zR ?_;refine sA ?_;refine zN ?_)
 (refine zR ?_;(iterate 3 refine sA ?_);refine zN ?_)
 refine zC (fun h => ?_) (fun h => ?_)
 ·(refine zR ?_;refine sA ?_;refine zN ?_)
  have hr : checkTxns l = 2 := by unfold checkTxns;rw [if_pos (by simp at h;omega)]
  exact zT Tryz.results79
 refine zS ?_
 have hdef : checkTxns l = fe (l.flatMap txErrs) := by unfold checkTxns;rw [if_neg (by simp at h;omega)]
 (refine zR ?_;(iterate 3 refine sA ?_);refine zN ?_)
 refine zB ?_
 refine WP.loop (fun k : Nat => ⟨[(11,.im (IV.int k)),(9,.im (txsV l)),(10,.im (IV.int l.length))],[],0⟩) (fun k => k ≤ l.length ∧ fe ((l.take k).flatMap txErrs) = 0) (fun k => l.length - k) 0 ⟨Nat.zero_le _,rfl⟩ (Shift.sub [] rfl SubE.a SubH.nil) ?_
 rintro k ⟨hk,he⟩
 (refine zR ?_;refine sA ?_;refine zN ?_)
 refine zC (fun h => ?_) (fun h => ?_)
 ·refine zS ?_
  have hlt : k < l.length := by simpa using h
  obtain ⟨t,ht⟩ := oc hlt
  have hbt : TxnB t := hb t (List.mem_of_getElem? ht)
  refine zB ?_
  (refine zR ?_;(iterate 4 refine sA ?_);refine zN ?_)
  (refine zR ?_;refine sA ?_;refine ALK.n (o3 (txn_Check_fn _ (by assumption)) (Evs.cons Ev.a Evs.nil)) rfl ?_;refine sA ?_;refine zN ?_)
  (refine zR ?_;(iterate 2 refine sA ?_);refine zN ?_)
  refine zC (fun h => ?_) (fun h => ?_)
  ·(refine zR ?_;(iterate 2 refine sA ?_);refine zN ?_)
   have hr : checkTxns l = checkTxn t := by
    have := ux (F := txErrs) he ht (by rw [txErrs,fe_one];simpa using h) []
    rw [List.append_nil,txErrs,fe_one] at this
    exact hdef.trans this
   exact zT Tryz.results79
  refine zS ?_
  (refine zR ?_;(iterate 2 refine sA ?_);refine zN ?_)
  show ∃ _,_ ∧ _ ∧ _
  exact ⟨k + 1,⟨by omega,u3 (F := txErrs) he ht (by rw [txErrs,fe_one];simpa using h)⟩,by omega,(Shift.sub [] rfl SubE.a SubH.nil)⟩
 ·refine zE ?_
  (refine zR ?_;refine sA ?_;refine zN ?_)
  have hr : checkTxns l = 0 := by
   have : ¬ k < l.length := by simpa using h
   rw [List.take_of_length_le (by omega)] at he
   exact hdef.trans he
  exact zT Tryz.results79
theorem qQ (l : List Txn) (hb : TxsB l) : Fn CC 97 [txsV l] (IV.int (checkTxns l)) := by
 refine Fn.of_wp _ Tryz.func97 rfl (by kernel_rfl) Tryz.ntmps97 rfl ?_
 intro F hD hG
 refine WP.len 0 rfl (fun hl1 => ?_)
 (refine zR ?_;refine sA ?_;refine zN ?_)
 (refine zR ?_;(iterate 3 refine sA ?_);refine zN ?_)
 refine zC (fun h => ?_) (fun h => ?_)
 ·(refine zR ?_;refine sA ?_;refine zN ?_)
  have hr : checkTxns l = 2 := by unfold checkTxns;rw [if_pos (by simp at h;omega)]
  exact zT Tryz.results97
 refine zS ?_
 have hdef : checkTxns l = fe (l.flatMap txErrs) := by unfold checkTxns;rw [if_neg (by simp at h;omega)]
 (refine zR ?_;refine sA ?_;refine zN ?_)
 refine zB ?_
 refine WP.loop (fun k : Nat => ⟨[(3,.im (IV.int k)),(0,.im (txsV l))],[],0⟩) (fun k => k ≤ l.length ∧ fe ((l.take k).flatMap txErrs) = 0) (fun k => l.length - k) 0 ⟨Nat.zero_le _,rfl⟩ (Shift.sub [] rfl SubE.a SubH.nil) ?_
 rintro k ⟨hk,he⟩
 (refine zR ?_;(iterate 4 refine sA ?_);refine zN ?_)
 refine zC (fun h => ?_) (fun h => ?_)
 ·refine zS ?_
  have hlt : k < l.length := by simpa using h
  obtain ⟨t,ht⟩ := oc hlt
  have hbt : TxnB t := hb t (List.mem_of_getElem? ht)
  refine zB ?_
  (refine zR ?_;(iterate 4 refine sA ?_);refine ALK.n (o3 (ref_CheckTxn_fn _ (by assumption)) (Evs.cons Ev.a Evs.nil)) rfl ?_;refine sA ?_;refine zN ?_)
  (refine zR ?_;(iterate 2 refine sA ?_);refine zN ?_)
  refine zC (fun h => ?_) (fun h => ?_)
  ·(refine zR ?_;(iterate 2 refine sA ?_);refine zN ?_)
   have hr : checkTxns l = checkTxn t := by
    have := ux (F := txErrs) he ht (by rw [txErrs,fe_one];simpa using h) []
    rw [List.append_nil,txErrs,fe_one] at this
    exact hdef.trans this
   exact zT Tryz.results97
  refine zS ?_
  (refine zR ?_;(iterate 3 refine sA ?_);refine zN ?_)
  show ∃ _,_ ∧ _ ∧ _
  exact ⟨k + 1,⟨by omega,u3 (F := txErrs) he ht (by rw [txErrs,fe_one];simpa using h)⟩,by omega,(Shift.sub [] rfl SubE.a SubH.nil)⟩
 ·refine zE ?_
  (refine zR ?_;refine sA ?_;refine zN ?_)
  have hr : checkTxns l = 0 := by
   have : ¬ k < l.length := by simpa using h
   rw [List.take_of_length_le (by omega)] at he
   exact hdef.trans he
  exact zT Tryz.results97
structure Plan where
 shards : Int
 txns : List Txn
def cP (p : Plan) : List IV := [IV.int p.shards,txsV p.txns]
abbrev planV (p : Plan) : IV := IV.agg (cP p)
def checkPlan (p : Plan) : Int := if p.shards < 1 ∨ 4 < p.shards then 3 else checkTxns p.txns
theorem yQ {p : Plan} (h : checkPlan p = 0) : 1 ≤ p.shards ∧ p.shards ≤ 4 ∧ checkTxns p.txns = 0 := by
 unfold checkPlan at h
 split at h
 ·cases h
 ·exact ⟨by omega,by omega,h⟩
theorem y7 {l : List Txn} (h : checkTxns l = 0) : l.length ≤ 8 ∧ ∀ t ∈ l,checkTxn t = 0 := by
 unfold checkTxns at h
 split at h
 ·cases h
 ·refine ⟨by omega,fun t ht => fe_zero.1 h _ (List.mem_flatMap.2 ⟨t,ht,by simp [txErrs]⟩)⟩
theorem yA (p : Plan) (hb : TxsB p.txns) : Fn CC 32 [planV p] (IV.int (checkPlan p)) := by
 refine Fn.of_wp _ Tryz.func32 rfl (by kernel_rfl) Tryz.ntmps32 rfl ?_
 intro F hD hG
 (refine zR ?_;(iterate 2 refine sA ?_);refine zN ?_)
 (refine zR ?_;refine fd 0 ?_;(iterate 3 refine sA ?_);refine gF 0 ?_;(iterate 2 refine gA ?_);refine sA ?_;refine zN ?_)
 refine zC (fun h => ?_) (fun h => ?_)
 ·(refine zR ?_;refine sA ?_;refine zN ?_)
  have hr : checkPlan p = 3 := by unfold checkPlan;rw [if_pos (by simpa using h)]
  exact zT Tryz.results32
 refine zS ?_
 (refine zR ?_;refine fd 1 ?_;refine sA ?_;refine ALK.n (o3 (vj _ (by assumption)) (Evs.cons Ev.a Evs.nil)) rfl ?_;refine sA ?_;refine zN ?_)
 have hr : checkPlan p = checkTxns p.txns := by unfold checkPlan;rw [if_neg (by simp at h;omega)]
 exact zT Tryz.results32
theorem qK (p : Plan) (hb : TxsB p.txns) : Fn CC 59 [planV p] (IV.int (checkPlan p)) := by
 refine Fn.of_wp _ Tryz.func59 rfl (by kernel_rfl) Tryz.ntmps59 rfl ?_
 intro F hD hG
 (refine zR ?_;(iterate 2 refine sA ?_);refine zN ?_)
 (refine zR ?_;refine fd 0 ?_;refine sA ?_;refine ALK.n (o3 (uZ _ _ _) (Evs.cons Ev.a (Evs.cons Ev.a (Evs.cons Ev.a Evs.nil)))) rfl ?_;refine sA ?_;refine zN ?_)
 refine zC (fun h => ?_) (fun h => ?_)
 ·(refine zR ?_;refine sA ?_;refine zN ?_)
  have hr : checkPlan p = 3 := by unfold checkPlan;rw [if_pos (by simp at h;omega)]
  exact zT Tryz.results59
 refine zS ?_
 (refine zR ?_;refine fd 1 ?_;refine sA ?_;refine ALK.n (o3 (qQ _ (by assumption)) (Evs.cons Ev.a Evs.nil)) rfl ?_;refine sA ?_;refine zN ?_)
 have hr : checkPlan p = checkTxns p.txns := by unfold checkPlan;rw [if_neg (by simp at h;omega)]
 exact zT Tryz.results59
def marks (m : Nat) (ks : List Int) : List Bool := ks.foldl (fun b k => b.set (k % (m : Int)).toNat true) (List.replicate m false)
theorem vz (m : Nat) (ks : List Int) (k : Int) : marks m (ks ++ [k]) = (marks m ks).set (k % (m : Int)).toNat true := by unfold marks;rw [List.foldl_append];rfl
theorem foldl_len {ks : List Int} {m : Nat} : ∀ {b : List Bool},(ks.foldl (fun b k => b.set (k % (m : Int)).toNat true) b).length = b.length := by
 induction ks with
 | nil => intro b;rfl
 | cons k ks ih => intro b;rw [List.foldl_cons,ih,List.length_set]
theorem yF (m : Nat) (ks : List Int) : (marks m ks).length = m := by unfold marks;rw [foldl_len,List.length_replicate]
theorem marks_at (m : Nat) (ks : List Int) (j : Nat) (hj : j < m) : (marks m ks)[j]? = some (ks.any fun k => (k % (m : Int)).toNat == j) := by
 unfold marks
 have key : ∀ (ks : List Int) (b : List Bool),b.length = m → ∀ v,b[j]? = some v → (ks.foldl (fun b k => b.set (k % (m : Int)).toNat true) b)[j]? = some (v || ks.any fun k => (k % (m : Int)).toNat == j) := by
  intro ks
  induction ks with
  | nil => intro b hb v hv;simpa using hv
  | cons k ks ih =>
   intro b hb v hv
   rw [List.foldl_cons,ih _ (by rw [List.length_set];exact hb) (v || (k % (m : Int)).toNat == j)]
   ·rw [List.any_cons,Bool.or_assoc]
   ·rw [List.getElem?_set]
    by_cases e : (k % (m : Int)).toNat = j
    ·rw [if_pos e,if_pos (by omega)];simp [e]
    ·rw [if_neg e,hv]
     have : ((k % (m : Int)).toNat == j) = false := by simpa using e
     rw [this,Bool.or_false]
 have := key ks (List.replicate m false) (List.length_replicate ..) false (by simp [hj])
 simpa using this
theorem marks_congr {m : Nat} {ks ks' : List Int} (h : ∀ k,k ∈ ks ↔ k ∈ ks') : marks m ks = marks m ks' := by
 apply List.ext_getElem?
 intro j
 by_cases hj : j < m
 ·rw [marks_at m ks j hj,marks_at m ks' j hj]
  congr 1
  rw [Bool.eq_iff_iff,List.any_eq_true,List.any_eq_true]
  exact ⟨fun ⟨k,h1,h2⟩ => ⟨k,(h k).1 h1,h2⟩,fun ⟨k,h1,h2⟩ => ⟨k,(h k).2 h1,h2⟩⟩
 ·rw [List.getElem?_eq_none (by rw [yF];omega),List.getElem?_eq_none (by rw [yF];omega)]
def cKs (ks : List Int) : List IV := [intsV ks]
theorem where_fn (p : Plan) (m : Nat) (kss : List (List Int)) (hp : p.shards = m) (h1 : 1 ≤ m) (h4 : m ≤ 4) (hk : ∀ ks ∈ kss,∀ k ∈ ks,0 ≤ k) : Fn CC 179 [planV p,IV.view 1 cKs kss] (boolsV (marks m kss.flatten)) := by
 refine Fn.of_wp _ Tryz.func179 rfl (by kernel_rfl) Tryz.ntmps179 rfl ?_
 intro F hD hG
 refine WP.len 1 rfl (fun hl1 => ?_)
 (refine zR ?_;(iterate 2 refine sA ?_);refine zN ?_)
 (refine zR ?_;refine fd 0 ?_;refine sA ?_;refine ALK.a (yS (n := m) (b := 1) (enc := cB) false rfl rfl (fun _ => rfl) rfl rfl rfl (Ev.of (eB rfl) (ImOf.im (ILe.int hp))) (Ev.of (eB rfl) (ImOf.im (ILe.int hp))) rfl (by omega) (by omega)) rfl ?_;refine sA ?_;refine zN ?_)
 (refine zR ?_;(iterate 3 refine sA ?_);refine zN ?_)
 refine zB ?_
 refine WP.loop (fun k : Nat => ⟨[(15,.im (IV.int k)),(13,.im (IV.view 1 cKs kss)),(14,.im (IV.int kss.length)),(2,.im (IV.ptr (cP p))),(5,.row 0 m)],[(0,.row 4 1 cB (marks m (kss.take k).flatten))],1⟩) (fun k => k ≤ kss.length) (fun k => kss.length - k) 0 (Nat.zero_le _) (Shift.sub [(0,0)] rfl SubE.a SubH.a) ?_
 rintro k hkk
 (refine zR ?_;refine sA ?_;refine zN ?_)
 refine zC (fun h => ?_) (fun h => ?_)
 ·refine zS ?_
  have hlt : k < kss.length := by simpa using h
  obtain ⟨ks,hks⟩ := oc hlt
  have hks0 := hk ks (List.mem_of_getElem? hks)
  refine zB ?_
  (refine zR ?_;(iterate 3 refine sA ?_);refine zN ?_)
  refine WP.len 7 rfl (fun hl2 => ?_)
  (refine zR ?_;(iterate 3 refine sA ?_);refine zN ?_)
  refine zB ?_
  refine WP.loop (fun j : Nat => ⟨[(21,.im (IV.int j)),(19,.im (intsV ks)),(20,.im (IV.int ks.length)),(15,.im (IV.int k)),(13,.im (IV.view 1 cKs kss)),(14,.im (IV.int kss.length)),(2,.im (IV.ptr (cP p))),(5,.row 0 m)],[(0,.row 4 1 cB (marks m ((kss.take k).flatten ++ ks.take j)))],1⟩) (fun j => j ≤ ks.length) (fun j => ks.length - j) 0 (Nat.zero_le _) (Shift.sub [(0,0)] rfl SubE.a (SubH.cons rfl rfl (ObLe.row (by simp)) SubH.nil)) ?_
  rintro j hj
  (refine zR ?_;refine sA ?_;refine zN ?_)
  refine zC (fun h => ?_) (fun h => ?_)
  ·refine zS ?_
   have hjl : j < ks.length := by simpa using h
   obtain ⟨x,hx⟩ := oc hjl
   have hx0 := hks0 x (List.mem_of_getElem? hx)
   have hm0 : 0 ≤ x % (m : Int) := Int.emod_nonneg _ (by omega)
   have hm1 : x % (m : Int) < (m : Int) := Int.emod_lt_of_pos _ (by omega)
   have hst : (x % (m : Int)).toNat < (marks m ((kss.take k).flatten ++ ks.take j)).length := by rw [yF];omega
   refine zB ?_
   (refine zR ?_;(iterate 3 refine sA ?_);refine zN ?_)
   (refine zR ?_;(iterate 2 refine sA ?_);refine fd 0 ?_;refine sA ?_;refine ALK.n (uj (eB rfl) (Ev.of (eB rfl) (ImOf.im (ILe.int hp))) hx0 (by omega)) rfl ?_;refine ALK.n (oj rfl (eB rfl) (eB rfl) hm0 hm1) rfl ?_;refine ALK.e (y4 rfl rfl (eB rfl) (eB rfl) (yG rfl) rfl rfl hst) rfl rfl ?_;refine zN ?_)
   (refine zR ?_;(iterate 2 refine sA ?_);refine zN ?_)
   show ∃ _,_ ∧ _ ∧ _
   refine ⟨j + 1,by omega,by omega,Shift.sub [(0,0)] rfl SubE.a (SubH.cons rfl rfl (ObLe.row ?_) SubH.nil)⟩
   rw [yI hx,← List.append_assoc,vz]
  ·refine zE ?_
   have hj2 : j = ks.length := by have : ¬ j < ks.length := by simpa using h
                                  omega
   subst hj2
   (refine zR ?_;(iterate 2 refine sA ?_);refine zN ?_)
   show ∃ _,_ ∧ _ ∧ _
   refine ⟨k + 1,by omega,by omega,Shift.sub [(0,0)] rfl SubE.a (SubH.cons rfl rfl (ObLe.row ?_) SubH.nil)⟩
   rw [yI hks,List.flatten_append,List.take_length];simp
 ·refine zE ?_
  have hk2 : k = kss.length := by have : ¬ k < kss.length := by simpa using h
                                  omega
  subst hk2
  (refine zR ?_;(iterate 2 refine sA ?_);refine zN ?_)
  refine WP.shift (Shift.frzRow 4 rfl rfl) ?_
  rw [List.take_length]
  exact zT Tryz.results179
theorem yj {t : Txn} (h : checkTxn t = 0) : (∀ k ∈ t.reads,0 ≤ k ∧ k < 8) ∧ ∀ k ∈ keysOf t,0 ≤ k ∧ k < 8 := by
 have h2 := (y6 h).2.1
 have key : ∀ k ∈ t.reads ++ keysOf t,0 ≤ k ∧ k < 8 := fun k hk => by
  have := h2 k hk
  simp only [isKeyB,Bool.and_eq_true,decide_eq_true_eq] at this
  omega
 exact ⟨fun k hk => key k (List.mem_append_left _ hk),fun k hk => key k (List.mem_append_right _ hk)⟩
def partL (m : Nat) (t : Txn) : List Bool := marks m (t.reads ++ keysOf t)
def actL (m : Nat) (t : Txn) : List Bool := marks m (keysOf t)
theorem place_Parts_fn (p : Plan) (m : Nat) (n : Int) (t : Txn) (hp : p.shards = m) (h1 : 1 ≤ m) (h4 : m ≤ 4) (h0 : 0 ≤ n) (ht : p.txns[n.toNat]? = some t) (hbt : TxnB t) (hok : checkTxn t = 0) : Fn CC 158 [planV p,IV.int n] (IV.tup [boolsV (partL m t),boolsV (actL m t)]) := by
 have hk := yj hok
 have k2 : ∀ ks ∈ [keysOf t],∀ k ∈ ks,(0 : Int) ≤ k := fun ks h k hk2 => by
  rw [List.mem_singleton] at h;subst h;exact (hk.2 k hk2).1
 have k1 : ∀ ks ∈ [t.reads,keysOf t],∀ k ∈ ks,(0 : Int) ≤ k := fun ks h k hk2 => by
  rcases List.mem_cons.1 h with h | h
  ·subst h;exact (hk.1 k hk2).1
  ·exact k2 ks h k hk2
 refine Fn.of_wp _ Tryz.func158 rfl (by kernel_rfl) Tryz.ntmps158 rfl ?_
 intro F hD hG
 (refine zR ?_;(iterate 3 refine sA ?_);refine zN ?_)
 (refine zR ?_;refine fd 1 ?_;(iterate 6 refine sA ?_);refine zN ?_)
 refine WP.shift (Shift.frzBlk 6 rfl rfl rfl) ?_
 (refine zW ?_;refine sA ?_;refine fd 0 ?_;(iterate 2 refine sA ?_);refine ALK.n (o3 (qx _ (by assumption)) (Evs.cons Ev.a Evs.nil)) rfl ?_;refine ALK.n (o6 rfl rfl rfl rfl rfl rfl (Pc rfl (eB rfl) Cs.a rfl rfl (Pc rfl (eB rfl) Cs.a rfl rfl Parts.nil)) rfl) rfl ?_;refine ALK.n (o3 (where_fn p m [t.reads,keysOf t] hp h1 h4 k1) (Evs.cons Ev.a (Evs.cons Ev.a Evs.nil))) rfl ?_;(iterate 2 refine sA ?_);refine ALK.n (o3 (qx _ (by assumption)) (Evs.cons Ev.a Evs.nil)) rfl ?_;refine ALK.n (o6 rfl rfl rfl rfl rfl rfl (Pc rfl (eB rfl) Cs.a rfl rfl Parts.nil) rfl) rfl ?_;refine ALK.n (o3 (where_fn p m [keysOf t] hp h1 h4 k2) (Evs.cons Ev.a (Evs.cons Ev.a Evs.nil))) rfl ?_;(iterate 2 refine sA ?_);refine zD ?_)
 have e1 : boolsV (marks m [t.reads,keysOf t].flatten) = boolsV (partL m t) := by unfold partL;simp
 have e2 : boolsV (marks m [keysOf t].flatten) = boolsV (actL m t) := by unfold actL;simp
 exact zT Tryz.results158
def keysIn (f : Int → Bool) (n : Nat) : List Int := ((List.range n).map (fun j : Nat => (j : Int))).filter f
theorem keysIn_succ (f : Int → Bool) (n : Nat) : keysIn f (n + 1) = keysIn f n ++ if f n then [(n : Int)] else [] := by
 unfold keysIn;rw [List.range_succ,List.map_append,List.filter_append]
 by_cases h : f n <;> simp [h]
theorem mem_keysIn {f : Int → Bool} {k : Int} : k ∈ keysIn f 8 ↔ 0 ≤ k ∧ k < 8 ∧ f k = true := by
 unfold keysIn
 rw [List.mem_filter,List.mem_map]
 constructor
 ·rintro ⟨⟨j,hj,rfl⟩,h⟩;rw [List.mem_range] at hj;exact ⟨by omega,by omega,h⟩
 ·rintro ⟨h0,h1,h⟩;exact ⟨⟨k.toNat,List.mem_range.2 (by omega),by omega⟩,h⟩
theorem jl {t : Txn} {k : Int} : readsB t k = true ↔ k ∈ t.reads := by simp [readsB]
theorem uG {t : Txn} {k : Int} : writesB t k = true ↔ k ∈ keysOf t := by simp [writesB]
theorem part_keys {m : Nat} {t : Txn} (hok : checkTxn t = 0) : marks m (keysIn (fun k => readsB t k || writesB t k) 8) = partL m t := by
 obtain ⟨h1,h2⟩ := yj hok
 refine marks_congr fun k => ?_
 rw [mem_keysIn,Bool.or_eq_true,jl,uG,List.mem_append]
 exact ⟨fun h => h.2.2,fun h => h.elim (fun h => ⟨(h1 k h).1,(h1 k h).2,.inl h⟩) (fun h => ⟨(h2 k h).1,(h2 k h).2,.inr h⟩)⟩
theorem act_keys {m : Nat} {t : Txn} (hok : checkTxn t = 0) : marks m (keysIn (writesB t) 8) = actL m t := by
 obtain ⟨h1,h2⟩ := yj hok
 refine marks_congr fun k => ?_
 rw [mem_keysIn,uG]
 exact ⟨fun h => h.2.2,fun h => ⟨(h2 k h).1,(h2 k h).2,h⟩⟩
theorem u9 (p : Plan) (m : Nat) (n : Int) (t : Txn) (hp : p.shards = m) (h1 : 1 ≤ m) (h4 : m ≤ 4) (h0 : 0 ≤ n) (ht : p.txns[n.toNat]? = some t) (hok : checkTxn t = 0) : Fn CC 100 [planV p,IV.int n] (boolsV (partL m t)) := by
 rw [← part_keys hok]
 refine Fn.of_wp _ Tryz.func100 rfl (by kernel_rfl) Tryz.ntmps100 rfl ?_
 intro F hD hG
 (refine zR ?_;(iterate 2 refine sA ?_);refine zN ?_)
 (refine zR ?_;refine fd 0 ?_;refine sA ?_;refine ALK.a (yS (n := m) (b := 1) (enc := cB) false rfl rfl (fun _ => rfl) rfl rfl rfl (Ev.of (eB rfl) (ImOf.im (ILe.int hp))) (Ev.of (eB rfl) (ImOf.im (ILe.int hp))) rfl (by omega) (by omega)) rfl ?_;refine sA ?_;refine zN ?_)
 (refine zR ?_;refine sA ?_;refine zN ?_)
 refine zB ?_
 refine WP.loop (fun k : Nat => ⟨[(6,.im (IV.int k)),(1,.im (IV.int n)),(2,.im (IV.ptr (cP p))),(5,.row 0 m)],[(0,.row 4 1 cB (marks m (keysIn (fun k => readsB t k || writesB t k) k)))],1⟩) (fun k => k ≤ 8) (fun k => 8 - k) 0 (Nat.zero_le _) (Shift.sub [(0,0)] rfl SubE.a SubH.a) ?_
 rintro k hk
 (refine zR ?_;(iterate 2 refine sA ?_);refine zN ?_)
 refine zC (fun h => ?_) (fun h => ?_)
 ·refine zS ?_
  have hlt : k < 8 := by simp at h;omega
  have hm0 : 0 ≤ (k : Int) % (m : Int) := Int.emod_nonneg _ (by omega)
  have hm1 : (k : Int) % (m : Int) < (m : Int) := Int.emod_lt_of_pos _ (by omega)
  have hst : ((k : Int) % (m : Int)).toNat < (marks m (keysIn (fun k => readsB t k || writesB t k) k)).length := by rw [yF];omega
  have hk0 : (0 : Int) ≤ k := by omega
  have hn := keysIn_succ (fun k => readsB t k || writesB t k) k
  refine zB ?_
  (refine zR ?_;refine fd 1 ?_;(iterate 5 refine sA ?_);refine ALK.n (o3 (jf _ _) (Evs.cons Ev.a (Evs.cons Ev.a Evs.nil))) rfl ?_;refine sA ?_;refine gF 1 ?_;(iterate 5 refine gA ?_);refine ALK.g (fun hb => o3 (u7 _ _) (Evs.cons Ev.a (Evs.cons Ev.a Evs.nil))) rfl rfl rfl ?_;refine sA ?_;refine zN ?_)
  refine zC (fun h => ?_) (fun h => ?_)
  ·(refine zR ?_;(iterate 2 refine sA ?_);refine fd 0 ?_;refine sA ?_;refine ALK.n (uj (eB rfl) (Ev.of (eB rfl) (ImOf.im (ILe.int hp))) hk0 (by omega)) rfl ?_;refine ALK.n (oj rfl (eB rfl) (eB rfl) hm0 hm1) rfl ?_;refine ALK.e (y4 rfl rfl (eB rfl) (eB rfl) (yG rfl) rfl rfl hst) rfl rfl ?_;refine zN ?_)
   (refine zR ?_;(iterate 3 refine sA ?_);refine zN ?_)
   show ∃ _,_ ∧ _ ∧ _
   refine ⟨k + 1,by omega,by omega,Shift.sub [(0,0)] rfl SubE.a (SubH.cons rfl rfl (ObLe.row ?_) SubH.nil)⟩
   rw [hn,if_pos h,vz]
  ·refine zS ?_
   (refine zR ?_;(iterate 3 refine sA ?_);refine zN ?_)
   show ∃ _,_ ∧ _ ∧ _
   refine ⟨k + 1,by omega,by omega,Shift.sub [(0,0)] rfl SubE.a (SubH.cons rfl rfl (ObLe.row ?_) SubH.nil)⟩
   rw [hn,if_neg (by rw [h];simp),List.append_nil]
 ·refine zE ?_
  have hk2 : k = 8 := by have : ¬ (k : Int) < 8 := by simpa using h
                         omega
  subst hk2
  (refine zR ?_;(iterate 2 refine sA ?_);refine zN ?_)
  refine WP.shift (Shift.frzRow 4 rfl rfl) ?_
  exact zT Tryz.results100
theorem ub (p : Plan) (m : Nat) (n : Int) (t : Txn) (hp : p.shards = m) (h1 : 1 ≤ m) (h4 : m ≤ 4) (h0 : 0 ≤ n) (ht : p.txns[n.toNat]? = some t) (hok : checkTxn t = 0) : Fn CC 101 [planV p,IV.int n] (boolsV (actL m t)) := by
 rw [← act_keys hok]
 refine Fn.of_wp _ Tryz.func101 rfl (by kernel_rfl) Tryz.ntmps101 rfl ?_
 intro F hD hG
 (refine zR ?_;(iterate 2 refine sA ?_);refine zN ?_)
 (refine zR ?_;refine fd 0 ?_;refine sA ?_;refine ALK.a (yS (n := m) (b := 1) (enc := cB) false rfl rfl (fun _ => rfl) rfl rfl rfl (Ev.of (eB rfl) (ImOf.im (ILe.int hp))) (Ev.of (eB rfl) (ImOf.im (ILe.int hp))) rfl (by omega) (by omega)) rfl ?_;refine sA ?_;refine zN ?_)
 (refine zR ?_;refine sA ?_;refine zN ?_)
 refine zB ?_
 refine WP.loop (fun k : Nat => ⟨[(6,.im (IV.int k)),(1,.im (IV.int n)),(2,.im (IV.ptr (cP p))),(5,.row 0 m)],[(0,.row 4 1 cB (marks m (keysIn (writesB t) k)))],1⟩) (fun k => k ≤ 8) (fun k => 8 - k) 0 (Nat.zero_le _) (Shift.sub [(0,0)] rfl SubE.a SubH.a) ?_
 rintro k hk
 (refine zR ?_;(iterate 2 refine sA ?_);refine zN ?_)
 refine zC (fun h => ?_) (fun h => ?_)
 ·refine zS ?_
  have hlt : k < 8 := by simp at h;omega
  have hm0 : 0 ≤ (k : Int) % (m : Int) := Int.emod_nonneg _ (by omega)
  have hm1 : (k : Int) % (m : Int) < (m : Int) := Int.emod_lt_of_pos _ (by omega)
  have hst : ((k : Int) % (m : Int)).toNat < (marks m (keysIn (writesB t) k)).length := by rw [yF];omega
  have hk0 : (0 : Int) ≤ k := by omega
  have hn := keysIn_succ (writesB t) k
  refine zB ?_
  (refine zR ?_;refine fd 1 ?_;(iterate 5 refine sA ?_);refine ALK.n (o3 (u7 _ _) (Evs.cons Ev.a (Evs.cons Ev.a Evs.nil))) rfl ?_;refine zN ?_)
  refine zC (fun h => ?_) (fun h => ?_)
  ·(refine zR ?_;(iterate 2 refine sA ?_);refine fd 0 ?_;refine sA ?_;refine ALK.n (uj (eB rfl) (Ev.of (eB rfl) (ImOf.im (ILe.int hp))) hk0 (by omega)) rfl ?_;refine ALK.n (oj rfl (eB rfl) (eB rfl) hm0 hm1) rfl ?_;refine ALK.e (y4 rfl rfl (eB rfl) (eB rfl) (yG rfl) rfl rfl hst) rfl rfl ?_;refine zN ?_)
   (refine zR ?_;(iterate 3 refine sA ?_);refine zN ?_)
   show ∃ _,_ ∧ _ ∧ _
   refine ⟨k + 1,by omega,by omega,Shift.sub [(0,0)] rfl SubE.a (SubH.cons rfl rfl (ObLe.row ?_) SubH.nil)⟩
   rw [hn,if_pos h,vz]
  ·refine zS ?_
   (refine zR ?_;(iterate 3 refine sA ?_);refine zN ?_)
   show ∃ _,_ ∧ _ ∧ _
   refine ⟨k + 1,by omega,by omega,Shift.sub [(0,0)] rfl SubE.a (SubH.cons rfl rfl (ObLe.row ?_) SubH.nil)⟩
   rw [hn,if_neg (by rw [h];simp),List.append_nil]
 ·refine zE ?_
  have hk2 : k = 8 := by have : ¬ (k : Int) < 8 := by simpa using h
                         omega
  subst hk2
  (refine zR ?_;(iterate 2 refine sA ?_);refine zN ?_)
  refine WP.shift (Shift.frzRow 4 rfl rfl) ?_
  exact zT Tryz.results101
end Go.Proofs.YtjgmbgfcffnanaaGreatDoor
