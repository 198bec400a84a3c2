/- What the packages steps and play do, in plain Lean: states, steps, what may be, what comes; right states stay right; if it is not over something may be. -/
import Derived.Test.YtjgmbgfcffnanaaGreatDoorZ10
namespace Go.Proofs.YtjgmbgfcffnanaaGreatDoor
structure StT where
 store : List Int
 rd : List (List Bool)
 wr : List (List Bool)
 vals : List (List Int)
deriving DecidableEq
structure StepT where
 kind : Int
 txn : Int
 shard : Int
deriving DecidableEq
def st0 : StT := ⟨[],[],[],[]⟩
def txN (p : Plan) (n : Nat) : Txn := p.txns.getD n ⟨[],[],[]⟩
def mS (p : Plan) : Nat := p.shards.toNat
def nT (p : Plan) : Nat := p.txns.length
def bAt (l : List (List Bool)) (n k : Nat) : Bool := (l.getD n []).getD k false
def set2 {α : Type} (l : List (List α)) (n k : Nat) (x : α) : List (List α) := l.set n ((l.getD n []).set k x)
def prt (p : Plan) (n k : Nat) : Bool := (partL (mS p) (txN p n)).getD k false
def act (p : Plan) (n k : Nat) : Bool := (actL (mS p) (txN p n)).getD k false
def goneB (p : Plan) (s : StT) (n k : Nat) : Bool := !prt p n k || bAt s.wr n k || (bAt s.rd n k && !act p n k)
def allB (p : Plan) (s : StT) (n : Nat) : Bool := (List.range (mS p)).all fun k => !prt p n k || bAt s.rd n k
def fineAt (p : Plan) (s : StT) (n k : Nat) : Bool := !((bAt s.rd n k && !prt p n k) || (bAt s.wr n k && (!act p n k || !allB p s n)))
def fineB (p : Plan) (s : StT) : Bool := (List.range (nT p)).all fun n => (List.range (mS p)).all fun k => fineAt p s n k
def rowsOk (p : Plan) (s : StT) (n : Nat) : Bool := decide ((s.rd.getD n []).length = mS p) && decide ((s.wr.getD n []).length = mS p) && decide ((s.vals.getD n []).length = (txN p n).reads.length)
def shapeB (p : Plan) (s : StT) : Bool := decide (s.store.length = 8) && decide (s.rd.length = nT p) && decide (s.wr.length = nT p) && decide (s.vals.length = nT p) && (List.range (nT p)).all (rowsOk p s)
def checkState (p : Plan) (s : StT) : Int := if checkPlan p = 0 then (if (shapeB p s && fineB p s) = true then 0 else 1) else checkPlan p
def hereB (m k : Nat) (key : Int) : Bool := decide (key.tmod (m : Int) = (k : Int))
def freeB (p : Plan) (s : StT) (n k : Nat) : Bool := (List.range n).all fun j => goneB p s j k || !byB (hereB (mS p) k) (txN p j) (txN p n)
def mayB (p : Plan) (s : StT) (kind : Int) (n k : Nat) : Bool := if kind = 1 then prt p n k && (!bAt s.rd n k && freeB p s n k) else act p n k && (!bAt s.wr n k && allB p s n)
def canRow (p : Plan) (s : StT) (kind : Int) (n : Nat) (j : Nat) : List StepT := ((List.range j).filter (mayB p s kind n)).map fun (k : Nat) => ⟨kind,n,k⟩
def canKind (p : Plan) (s : StT) (kind : Int) (j : Nat) : List StepT := (List.range j).flatMap fun n => canRow p s kind n (mS p)
def canL (p : Plan) (s : StT) : List StepT := canKind p s 1 (nT p) ++ canKind p s 2 (nT p)
def overB (p : Plan) (s : StT) : Bool := (List.range (nT p)).all fun n => (List.range (mS p)).all fun k => goneB p s n k
def rdV (m k : Nat) (st : List Int) (keys : List Int) (old : List Int) : List Int := (keys.zip old).map fun q => if hereB m k q.1 then rdF st q.1 else q.2
def wrP (m k : Nat) (t : Txn) (xs : List Int) : List (SetT × Int) := (t.sets.zip (runSets t xs)).filter fun q => hereB m k q.1.key
def turnS (p : Plan) (s : StT) (kind : Int) (n k : Nat) : StT :=
 if kind = 1 then ⟨s.store,set2 s.rd n k true,s.wr,s.vals.set n (rdV (mS p) k s.store (txN p n).reads (s.vals.getD n []))⟩
 else ⟨putZ s.store (wrP (mS p) k (txN p n) (s.vals.getD n [])),s.rd,set2 s.wr n k true,s.vals⟩
def turnX (p : Plan) (s : StT) (x : StepT) : StT := turnS p s x.kind x.txn.toNat x.shard.toNat
def hasX (p : Plan) (x : StepT) : Bool := if x.kind = 2 then act p x.txn.toNat x.shard.toNat else prt p x.txn.toNat x.shard.toNat
def didX (s : StT) (x : StepT) : Bool := if x.kind = 2 then bAt s.wr x.txn.toNat x.shard.toNat else bAt s.rd x.txn.toNat x.shard.toNat
def doE (p : Plan) (s : StT) (x : StepT) : Int :=
 if checkState p s = 0 then
  if x.kind = 1 ∨ x.kind = 2 then
   if x.txn < 0 ∨ (nT p : Int) ≤ x.txn ∨ x.shard < 0 ∨ (mS p : Int) ≤ x.shard then 5
   else if hasX p x = false then 5 else if didX s x = true then 7 else if mayB p s x.kind x.txn.toNat x.shard.toNat = false then 6 else 0
  else 4
 else checkState p s
def doS (p : Plan) (s : StT) (x : StepT) : StT := if doE p s x = 0 then turnX p s x else st0
def beginE (p : Plan) (st : List Int) : Int := if checkPlan p = 0 then (if st.length = 8 then 0 else 1) else checkPlan p
def beginS (p : Plan) (st : List Int) : StT := ⟨st,List.replicate (nT p) (List.replicate (mS p) false),List.replicate (nT p) (List.replicate (mS p) false),p.txns.map fun t => List.replicate t.reads.length 0⟩
def begS (p : Plan) (st : List Int) : StT := if beginE p st = 0 then beginS p st else st0
def pickN (picks : List Int) (n : Nat) : Int := match picks[n]? with
 | some k => if k < 0 then -(k + 1) else k
 | none => 0
def nxt (p : Plan) (picks : List Int) (s : StT) (n : Nat) : StT := turnX p s ((canL p s).getD ((pickN picks n).tmod ((canL p s).length : Int)).toNat ⟨1,0,0⟩)
def onS (p : Plan) (picks : List Int) : Nat → StT → Nat → StT × Nat
 | 0,s,n => (s,n)
 | f + 1,s,n => if overB p s then (s,n) else onS p picks f (nxt p picks s n) (n + 1)
theorem uB {α : Type} {l : List α} {n : Nat} {x d : α} (h : l[n]? = some x) : l.getD n d = x := by rw [List.getD_eq_getElem?_getD,h];rfl
theorem o9 {α : Type} {l : List α} {n : Nat} (d : α) (h : n < l.length) : l[n]? = some (l.getD n d) := by
 rw [List.getD_eq_getElem?_getD,List.getElem?_eq_getElem h];rfl
theorem ug {α : Type} {l : List α} {n j : Nat} {x d : α} (h : n < l.length) : (l.set n x).getD j d = if n = j then x else l.getD j d := by
 simp only [List.getD_eq_getElem?_getD,List.getElem?_set]
 by_cases e : n = j
 ·subst e;simp [h]
 ·simp [e]
theorem bAt_set2 {l : List (List Bool)} {n k n' k' : Nat} {b : Bool} (h1 : n < l.length) (h2 : k < (l.getD n []).length) : bAt (set2 l n k b) n' k' = if n = n' ∧ k = k' then b else bAt l n' k' := by
 unfold bAt set2
 rw [ug h1]
 by_cases e : n = n'
 ·subst e
  rw [if_pos rfl,ug h2]
  by_cases e2 : k = k'
  ·subst e2;simp
  ·simp [e2]
 ·rw [if_neg e,if_neg (fun h => e h.1)]
theorem qJ {α : Type} (l : List (List α)) (n k : Nat) (x : α) : (set2 l n k x).length = l.length := by simp [set2]
theorem set2_row {α : Type} (l : List (List α)) (n k j : Nat) (x : α) : ((set2 l n k x).getD j []).length = (l.getD j []).length := by
 unfold set2
 by_cases h : n < l.length
 ·rw [ug h]
  by_cases e : n = j
  ·subst e;simp
  ·simp [e]
 ·rw [List.set_eq_of_length_le (by omega)]
theorem prt_iff {p : Plan} {n k : Nat} (hk : k < mS p) : prt p n k = true ↔ ∃ key,(key ∈ (txN p n).reads ∨ key ∈ keysOf (txN p n)) ∧ (key % (mS p : Int)).toNat = k := by
 unfold prt partL
 rw [uB (marks_at _ _ k hk),List.any_eq_true]
 simp
theorem act_iff {p : Plan} {n k : Nat} (hk : k < mS p) : act p n k = true ↔ ∃ key,key ∈ keysOf (txN p n) ∧ (key % (mS p : Int)).toNat = k := by
 unfold act actL
 rw [uB (marks_at _ _ k hk),List.any_eq_true]
 simp
theorem jT {p : Plan} {n k : Nat} (hk : k < mS p) (h : act p n k = true) : prt p n k = true := by
 rw [act_iff hk] at h
 obtain ⟨key,h1,h2⟩ := h
 exact (prt_iff hk).2 ⟨key,.inr h1,h2⟩
theorem here_iff {m k : Nat} {key : Int} (h0 : 0 ≤ key) : hereB m k key = true ↔ (key % (m : Int)).toNat = k ∧ 0 ≤ key % (m : Int) := by
 unfold hereB
 rw [decide_eq_true_eq,Int.tmod_eq_emod_of_nonneg h0]
 have : 0 ≤ key % (m : Int) := by
  by_cases hm : (m : Int) = 0
  ·rw [hm,Int.emod_zero];exact h0
  ·exact Int.emod_nonneg _ hm
 omega
theorem here_iff' {m k : Nat} {key : Int} (h0 : 0 ≤ key) : hereB m k key = true ↔ (key % (m : Int)).toNat = k := by
 rw [here_iff h0]
 refine ⟨fun h => h.1,fun h => ⟨h,?_⟩⟩
 by_cases hm : (m : Int) = 0
 ·rw [hm,Int.emod_zero];exact h0
 ·exact Int.emod_nonneg _ hm
theorem uo {p : Plan} {s : StT} {n : Nat} : allB p s n = true ↔ ∀ k,k < mS p → prt p n k = true → bAt s.rd n k = true := by
 unfold allB
 rw [List.all_eq_true]
 constructor
 ·intro h k hk hp
  have := h k (List.mem_range.2 hk)
  rw [hp] at this;simpa using this
 ·intro h k hk
  have := h k (List.mem_range.1 hk)
  cases hp : prt p n k with
  | false => rfl
  | true => simp [this hp]
structure Valid (p : Plan) (s : StT) : Prop where
 plan : checkPlan p = 0
 store : s.store.length = 8
 rdl : s.rd.length = nT p
 wrl : s.wr.length = nT p
 vall : s.vals.length = nT p
 rdr : ∀ n,n < nT p → (s.rd.getD n []).length = mS p
 wrr : ∀ n,n < nT p → (s.wr.getD n []).length = mS p
 valr : ∀ n,n < nT p → (s.vals.getD n []).length = (txN p n).reads.length
 rdp : ∀ n k,n < nT p → k < mS p → bAt s.rd n k = true → prt p n k = true
 wra : ∀ n k,n < nT p → k < mS p → bAt s.wr n k = true → act p n k = true ∧ allB p s n = true
theorem vp {p : Plan} {s : StT} {n k : Nat} : fineAt p s n k = true ↔ (bAt s.rd n k = true → prt p n k = true) ∧ (bAt s.wr n k = true → act p n k = true ∧ allB p s n = true) := by
 unfold fineAt
 cases bAt s.rd n k <;> cases prt p n k <;> cases bAt s.wr n k <;> cases act p n k <;> cases allB p s n <;> simp
theorem y9 {p : Plan} {s : StT} : shapeB p s = true ↔ s.store.length = 8 ∧ s.rd.length = nT p ∧ s.wr.length = nT p ∧ s.vals.length = nT p ∧ ∀ n,n < nT p → (s.rd.getD n []).length = mS p ∧ (s.wr.getD n []).length = mS p ∧ (s.vals.getD n []).length = (txN p n).reads.length := by
 unfold shapeB rowsOk
 simp only [Bool.and_eq_true,decide_eq_true_eq,List.all_eq_true,List.mem_range,and_assoc]
theorem ud {p : Plan} {s : StT} : checkState p s = 0 ↔ Valid p s := by
 unfold checkState
 by_cases h : checkPlan p = 0
 ·rw [if_pos h]
  constructor
  ·intro h1
   split at h1
   ·rename_i h2
    rw [Bool.and_eq_true] at h2
    obtain ⟨a,b,c,d,e⟩ := y9.1 h2.1
    have hf : ∀ n k,n < nT p → k < mS p → fineAt p s n k = true := fun n k hn hk => by
     have h3 := h2.2
     unfold fineB at h3
     exact List.all_eq_true.1 (List.all_eq_true.1 h3 n (List.mem_range.2 hn)) k (List.mem_range.2 hk)
    exact ⟨h,a,b,c,d,fun n hn => (e n hn).1,fun n hn => (e n hn).2.1,fun n hn => (e n hn).2.2,fun n k hn hk => (vp.1 (hf n k hn hk)).1,fun n k hn hk => (vp.1 (hf n k hn hk)).2⟩
   ·cases h1
  ·intro v
   rw [if_pos]
   rw [Bool.and_eq_true]
   refine ⟨y9.2 ⟨v.store,v.rdl,v.wrl,v.vall,fun n hn => ⟨v.rdr n hn,v.wrr n hn,v.valr n hn⟩⟩,?_⟩
   unfold fineB
   rw [List.all_eq_true]
   intro n hn
   rw [List.all_eq_true]
   intro k hk
   exact vp.2 ⟨v.rdp n k (List.mem_range.1 hn) (List.mem_range.1 hk),v.wra n k (List.mem_range.1 hn) (List.mem_range.1 hk)⟩
 ·rw [if_neg h]
  exact ⟨fun h1 => absurd h1 h,fun v => absurd v.plan h⟩
theorem oO {p : Plan} (h : checkPlan p = 0) : p.shards = (mS p : Int) ∧ 1 ≤ mS p ∧ mS p ≤ 4 ∧ nT p ≤ 8 ∧ ∀ n,n < nT p → p.txns[n]? = some (txN p n) ∧ checkTxn (txN p n) = 0 := by
 obtain ⟨h1,h2,h3⟩ := yQ h
 obtain ⟨h4,h5⟩ := y7 h3
 refine ⟨by unfold mS;omega,by unfold mS;omega,by unfold mS;omega,h4,fun n hn => ?_⟩
 have h6 : p.txns[n]? = some (txN p n) := o9 _ hn
 exact ⟨h6,h5 _ (List.mem_of_getElem? h6)⟩
theorem mem_canRow {p : Plan} {s : StT} {kind : Int} {n j : Nat} {x : StepT} : x ∈ canRow p s kind n j ↔ ∃ k : Nat,x = ⟨kind,n,k⟩ ∧ k < j ∧ mayB p s kind n k = true := by
 unfold canRow
 rw [List.mem_map]
 constructor
 ·rintro ⟨k,h1,rfl⟩
  rw [List.mem_filter,List.mem_range] at h1
  exact ⟨k,rfl,h1.1,h1.2⟩
 ·rintro ⟨k,rfl,h1,h2⟩
  exact ⟨k,List.mem_filter.2 ⟨List.mem_range.2 h1,h2⟩,rfl⟩
theorem mem_canKind {p : Plan} {s : StT} {kind : Int} {j : Nat} {x : StepT} : x ∈ canKind p s kind j ↔ ∃ n k : Nat,x = ⟨kind,n,k⟩ ∧ n < j ∧ k < mS p ∧ mayB p s kind n k = true := by
 unfold canKind
 rw [List.mem_flatMap]
 constructor
 ·rintro ⟨n,h1,h2⟩
  obtain ⟨k,h3,h4,h5⟩ := mem_canRow.1 h2
  exact ⟨n,k,h3,List.mem_range.1 h1,h4,h5⟩
 ·rintro ⟨n,k,h1,h2,h3,h4⟩
  exact ⟨n,List.mem_range.2 h2,mem_canRow.2 ⟨k,h1,h3,h4⟩⟩
theorem uI {p : Plan} {s : StT} {x : StepT} : x ∈ canL p s ↔ ∃ n k : Nat,(x.kind = 1 ∨ x.kind = 2) ∧ x = ⟨x.kind,n,k⟩ ∧ n < nT p ∧ k < mS p ∧ mayB p s x.kind n k = true := by
 unfold canL
 rw [List.mem_append,mem_canKind,mem_canKind]
 constructor
 ·rintro (⟨n,k,rfl,h⟩ | ⟨n,k,rfl,h⟩)
  ·exact ⟨n,k,.inl rfl,rfl,h⟩
  ·exact ⟨n,k,.inr rfl,rfl,h⟩
 ·rintro ⟨n,k,h1 | h1,h2,h⟩
  ·rw [h1] at h2 h;exact .inl ⟨n,k,h2,h⟩
  ·rw [h1] at h2 h;exact .inr ⟨n,k,h2,h⟩
theorem may_some {p : Plan} {s : StT} (_ : Valid p s) : ∀ n,n < nT p → (∃ k,k < mS p ∧ goneB p s n k = false) → ∃ x,x ∈ canL p s := by
 intro n
 induction n using Nat.strongRecOn with
 | ind n ih =>
  intro hn ⟨k,hk,hg⟩
  by_cases hj : ∃ j,j < n ∧ ∃ k,k < mS p ∧ goneB p s j k = false
  ·obtain ⟨j,hj,h⟩ := hj
   exact ih j hj (by omega) h
  ·have hfree : ∀ k,k < mS p → freeB p s n k = true := fun k hk => by
    unfold freeB
    rw [List.all_eq_true]
    intro j hj2
    cases h : goneB p s j k with
    | true => rfl
    | false => exact absurd ⟨j,List.mem_range.1 hj2,k,hk,h⟩ hj
   by_cases hr : ∃ k,k < mS p ∧ prt p n k = true ∧ bAt s.rd n k = false
   ·obtain ⟨k,hk,h1,h2⟩ := hr
    refine ⟨⟨1,n,k⟩,uI.2 ⟨n,k,.inl rfl,rfl,hn,hk,?_⟩⟩
    unfold mayB
    rw [if_pos rfl,h1,h2,hfree k hk];rfl
   ·have hall : allB p s n = true := uo.2 fun k hk h1 => by
     cases h : bAt s.rd n k with
     | true => rfl
     | false => exact absurd ⟨k,hk,h1,h⟩ hr
    unfold goneB at hg
    simp only [Bool.or_eq_false_iff,Bool.not_eq_false',Bool.and_eq_false_iff] at hg
    obtain ⟨⟨g1,g2⟩,g3⟩ := hg
    have hrd := uo.1 hall k hk g1
    have hact : act p n k = true := by
     rcases g3 with g3 | g3
     ·rw [hrd] at g3;cases g3
     ·exact g3
    refine ⟨⟨2,n,k⟩,uI.2 ⟨n,k,.inr rfl,rfl,hn,hk,?_⟩⟩
    unfold mayB
    rw [if_neg (show ¬ (2 : Int) = 1 by decide),hact,g2,hall];rfl
theorem qG {p : Plan} {s : StT} : overB p s = true ↔ ∀ n k,n < nT p → k < mS p → goneB p s n k = true := by
 unfold overB
 simp only [List.all_eq_true,List.mem_range]
 exact ⟨fun h n k hn hk => h n hn k hk,fun h n hn k hk => h n k hn hk⟩
theorem over_can {p : Plan} {s : StT} (v : Valid p s) : overB p s = true ↔ canL p s = [] := by
 constructor
 ·intro h
  rw [qG] at h
  refine List.eq_nil_iff_forall_not_mem.2 fun x hx => ?_
  obtain ⟨n,k,hkd,_,hn,hk,hm⟩ := uI.1 hx
  have hg := h n k hn hk
  unfold goneB at hg
  unfold mayB at hm
  rcases hkd with hkd | hkd
  ·rw [if_pos hkd] at hm
   simp only [Bool.and_eq_true,Bool.not_eq_true'] at hm
   obtain ⟨m1,m2,_⟩ := hm
   rw [m1,m2] at hg
   simp at hg
   have := uo.1 (v.wra n k hn hk hg).2 k hk m1
   rw [m2] at this;cases this
  ·rw [if_neg (by rw [hkd];decide)] at hm
   simp only [Bool.and_eq_true,Bool.not_eq_true'] at hm
   obtain ⟨m1,m2,_⟩ := hm
   rw [m1,m2,jT hk m1] at hg
   simp at hg
 ·intro h
  rw [qG]
  intro n k hn hk
  cases hg : goneB p s n k with
  | true => rfl
  | false =>
   obtain ⟨x,hx⟩ := may_some v n hn ⟨k,hk,hg⟩
   rw [h] at hx;cases hx
structure Step (p : Plan) (s : StT) (kind : Int) (n k : Nat) : Prop where
 kd : kind = 1 ∨ kind = 2
 hn : n < nT p
 hk : k < mS p
 may : mayB p s kind n k = true
theorem Step.rd {p : Plan} {s : StT} {n k : Nat} (h : Step p s 1 n k) : prt p n k = true ∧ bAt s.rd n k = false ∧ freeB p s n k = true := by
 have := h.may
 unfold mayB at this
 simpa using this
theorem Step.wr {p : Plan} {s : StT} {n k : Nat} (h : Step p s 2 n k) : act p n k = true ∧ bAt s.wr n k = false ∧ allB p s n = true := by
 have := h.may
 unfold mayB at this
 simpa using this
theorem Step.of_mem {p : Plan} {s : StT} {x : StepT} (h : x ∈ canL p s) : Step p s x.kind x.txn.toNat x.shard.toNat ∧ 0 ≤ x.txn ∧ x.txn < nT p ∧ 0 ≤ x.shard ∧ x.shard < mS p := by
 obtain ⟨n,k,h1,h2,h3,h4,h5⟩ := uI.1 h
 have e1 : x.txn = n := by rw [h2]
 have e2 : x.shard = k := by rw [h2]
 rw [e1,e2]
 exact ⟨⟨h1,by simpa using h3,by simpa using h4,by simpa using h5⟩,by omega,by omega,by omega,by omega⟩
theorem rdV_len {m k : Nat} {st keys old : List Int} (h : old.length = keys.length) : (rdV m k st keys old).length = keys.length := by
 unfold rdV;rw [List.length_map,List.length_zip];omega
theorem turn_rd {p : Plan} {s : StT} {n k : Nat} (v : Valid p s) (h : Step p s 1 n k) (n' k' : Nat) : bAt (turnS p s 1 n k).rd n' k' = if n = n' ∧ k = k' then true else bAt s.rd n' k' := by
 unfold turnS
 rw [if_pos rfl]
 exact bAt_set2 (by rw [v.rdl];exact h.hn) (by rw [v.rdr n h.hn];exact h.hk)
theorem turn_wr {p : Plan} {s : StT} {n k : Nat} (v : Valid p s) (h : Step p s 2 n k) (n' k' : Nat) : bAt (turnS p s 2 n k).wr n' k' = if n = n' ∧ k = k' then true else bAt s.wr n' k' := by
 unfold turnS
 rw [if_neg (by decide)]
 exact bAt_set2 (by rw [v.wrl];exact h.hn) (by rw [v.wrr n h.hn];exact h.hk)
theorem turn1 (p : Plan) (s : StT) (n k : Nat) : turnS p s 1 n k = ⟨s.store,set2 s.rd n k true,s.wr,s.vals.set n (rdV (mS p) k s.store (txN p n).reads (s.vals.getD n []))⟩ := if_pos rfl
theorem turn2 (p : Plan) (s : StT) (n k : Nat) : turnS p s 2 n k = ⟨putZ s.store (wrP (mS p) k (txN p n) (s.vals.getD n [])),s.rd,set2 s.wr n k true,s.vals⟩ := if_neg (by decide)
theorem allB_mono {p : Plan} {s s' : StT} {n : Nat} (h : ∀ k,bAt s.rd n k = true → bAt s'.rd n k = true) (ha : allB p s n = true) : allB p s' n = true := uo.2 fun k hk hp => h k (uo.1 ha k hk hp)
theorem Valid.turn {p : Plan} {s : StT} {kind : Int} {n k : Nat} (v : Valid p s) (h : Step p s kind n k) : Valid p (turnS p s kind n k) := by
 rcases h.kd with rfl | rfl
 ·have hrd := turn_rd v h
  have hmono : ∀ n' k',bAt s.rd n' k' = true → bAt (turnS p s 1 n k).rd n' k' = true := fun n' k' h1 => by rw [hrd];split;rfl;exact h1
  have hwr : (turnS p s 1 n k).wr = s.wr := by rw [turn1]
  refine ⟨v.plan,by rw [turn1];exact v.store,by rw [turn1];simp only [qJ];exact v.rdl,by rw [turn1];exact v.wrl,by rw [turn1];simp only [List.length_set];exact v.vall,fun j hj => ?_,fun j hj => ?_,fun j hj => ?_,fun j q hj hq hb => ?_,fun j q hj hq hb => ?_⟩
  ·rw [turn1];simp only [set2_row];exact v.rdr j hj
  ·rw [turn1];exact v.wrr j hj
  ·rw [turn1]
   simp only
   rw [ug (by rw [v.vall];exact h.hn)]
   split
   ·rename_i e;subst e;rw [rdV_len (v.valr n hj)]
   ·exact v.valr j hj
  ·rw [hrd] at hb
   split at hb
   ·rename_i e;obtain ⟨rfl,rfl⟩ := e;exact h.rd.1
   ·exact v.rdp j q hj hq hb
  ·rw [hwr] at hb
   obtain ⟨a,b⟩ := v.wra j q hj hq hb
   exact ⟨a,allB_mono (hmono j) b⟩
 ·have hwr := turn_wr v h
  have hrd : (turnS p s 2 n k).rd = s.rd := by rw [turn2]
  refine ⟨v.plan,by rw [turn2];simp only [yN];exact v.store,by rw [turn2];exact v.rdl,by rw [turn2];simp only [qJ];exact v.wrl,by rw [turn2];exact v.vall,fun j hj => ?_,fun j hj => ?_,fun j hj => ?_,fun j q hj hq hb => ?_,fun j q hj hq hb => ?_⟩
  ·rw [turn2];exact v.rdr j hj
  ·rw [turn2];simp only [set2_row];exact v.wrr j hj
  ·rw [turn2];exact v.valr j hj
  ·rw [hrd] at hb;exact v.rdp j q hj hq hb
  ·have hall : ∀ j,allB p s j = true → allB p (turnS p s 2 n k) j = true := fun j => allB_mono fun k h => by rw [hrd];exact h
   rw [hwr] at hb
   split at hb
   ·rename_i e;obtain ⟨rfl,rfl⟩ := e;exact ⟨h.wr.1,hall _ h.wr.2.2⟩
   ·obtain ⟨a,b⟩ := v.wra j q hj hq hb
    exact ⟨a,hall _ b⟩
theorem Valid.begin {p : Plan} {st : List Int} (h : beginE p st = 0) : Valid p (beginS p st) := by
 unfold beginE at h
 by_cases hp : checkPlan p = 0
 ·rw [if_pos hp] at h
  by_cases hs : st.length = 8
  ·have hrep : ∀ n,n < nT p → (List.replicate (nT p) (List.replicate (mS p) false)).getD n [] = List.replicate (mS p) false := fun n hn => by
    rw [List.getD_eq_getElem?_getD,List.getElem?_replicate,if_pos hn];rfl
   have hb : ∀ n k,n < nT p → k < mS p → bAt (List.replicate (nT p) (List.replicate (mS p) false)) n k = false := fun n k hn hk => by
    unfold bAt;rw [hrep n hn,List.getD_eq_getElem?_getD,List.getElem?_replicate,if_pos hk];rfl
   refine ⟨hp,hs,by simp [beginS],by simp [beginS],by simp [beginS,nT],fun n hn => by simp only [beginS];rw [hrep n hn];simp,fun n hn => by simp only [beginS];rw [hrep n hn];simp,fun n hn => ?_,fun n k hn hk h1 => ?_,fun n k hn hk h1 => ?_⟩
   ·have h6 := ((oO hp).2.2.2.2 n hn).1
    simp only [beginS]
    rw [uB (x := List.replicate (txN p n).reads.length 0) (by rw [List.getElem?_map,h6];rfl)]
    simp
   ·simp only [beginS] at h1;rw [hb n k hn hk] at h1;cases h1
   ·simp only [beginS] at h1;rw [hb n k hn hk] at h1;cases h1
  ·rw [if_neg hs] at h;cases h
 ·rw [if_neg hp] at h;exact absurd h hp
def cnt (f : Nat → Nat → Bool) (N m : Nat) : Nat := ((List.range N).map fun n => ((List.range m).filter fun k => f n k).length).sum
def togo (p : Plan) (s : StT) : Nat := cnt (fun n k => prt p n k && !bAt s.rd n k) (nT p) (mS p) + cnt (fun n k => act p n k && !bAt s.wr n k) (nT p) (mS p)
theorem row_set {f g : Nat → Bool} {k : Nat} (hk : f k = true) (hg : ∀ j,g j = if k = j then false else f j) : ∀ m,k < m → ((List.range m).filter f).length = ((List.range m).filter g).length + 1 := by
 intro m
 induction m with
 | zero => intro h;omega
 | succ m ih =>
  intro h
  simp only [List.range_succ,List.filter_append,List.length_append]
  by_cases e : k = m
  ·subst e
   have hsame : ∀ l : List Nat,(∀ j ∈ l,j < k) → (l.filter f) = (l.filter g) := fun l hl => List.filter_congr fun j hj => by rw [hg j,if_neg (by have := hl j hj;omega)]
   rw [hsame _ (fun j hj => List.mem_range.1 hj)]
   simp [hk,hg k]
  ·have h1 := ih (by omega)
   have h2 : g m = f m := by rw [hg m,if_neg e]
   simp only [List.filter_cons,List.filter_nil,h2]
   omega
theorem cnt_set {f g : Nat → Nat → Bool} {n k N m : Nat} (hk : f n k = true) (hkm : k < m) (hg : ∀ i j,g i j = if n = i ∧ k = j then false else f i j) (hn : n < N) : cnt f N m = cnt g N m + 1 := by
 unfold cnt
 induction N with
 | zero => omega
 | succ N ih =>
  simp only [List.range_succ,List.map_append,List.sum_append,List.map_cons,List.map_nil,List.sum_cons,List.sum_nil]
  by_cases e : n = N
  ·subst e
   have hrow := row_set (f := f n) (g := g n) hk (fun j => by rw [hg n j];by_cases c : k = j <;> simp [c]) m hkm
   have hsame : ((List.range n).map fun i => ((List.range m).filter fun k => f i k).length) = ((List.range n).map fun i => ((List.range m).filter fun k => g i k).length) := List.map_congr_left fun i hi => by
    have : i < n := List.mem_range.1 hi
    rw [List.filter_congr (q := fun k => g i k) fun j _ => by rw [hg i j,if_neg (fun h => by omega)]]
   rw [hsame]
   have : ((List.range m).filter fun k => f n k).length = ((List.range m).filter fun k => g n k).length + 1 := hrow
   omega
  ·have h1 := ih (by omega)
   have : ((List.range m).filter fun k => f N k) = ((List.range m).filter fun k => g N k) := List.filter_congr fun j _ => by rw [hg N j,if_neg (fun h => e h.1)]
   rw [this]
   omega
theorem cnt_congr {f g : Nat → Nat → Bool} {N m : Nat} (h : ∀ i j,i < N → j < m → f i j = g i j) : cnt f N m = cnt g N m := by
 unfold cnt
 congr 1
 refine List.map_congr_left fun i hi => ?_
 rw [List.filter_congr fun j hj => h i j (List.mem_range.1 hi) (List.mem_range.1 hj)]
theorem cnt_zero {f : Nat → Nat → Bool} {N m : Nat} (h : ∀ i j,i < N → j < m → f i j = false) : cnt f N m = 0 := by
 rw [cnt_congr (g := fun _ _ => false) h]
 unfold cnt
 have h1 : ((List.range m).filter fun _ => false).length = 0 := by rw [List.length_eq_zero_iff,List.filter_eq_nil_iff];simp
 simp only [h1]
 induction N with
 | zero => rfl
 | succ N ih => simp [List.range_succ];exact ih fun i j hi hj => h i j (by omega) hj
theorem cnt_le (f : Nat → Nat → Bool) (N m : Nat) : cnt f N m ≤ N * m := by
 unfold cnt
 induction N with
 | zero => simp
 | succ N ih =>
  simp only [List.range_succ,List.map_append,List.sum_append,List.map_cons,List.map_nil,List.sum_cons,List.sum_nil]
  have : ((List.range m).filter fun k => f N k).length ≤ m := Nat.le_trans (List.length_filter_le _ _) (by simp)
  rw [Nat.add_mul]
  omega
theorem togo_turn {p : Plan} {s : StT} {kind : Int} {n k : Nat} (v : Valid p s) (h : Step p s kind n k) : togo p s = togo p (turnS p s kind n k) + 1 := by
 unfold togo
 rcases h.kd with rfl | rfl
 ·have h1 := h.rd
  have hwr : (turnS p s 1 n k).wr = s.wr := by rw [turn1]
  rw [hwr,cnt_set (f := fun n k => prt p n k && !bAt s.rd n k) (g := fun i j => prt p i j && !bAt (turnS p s 1 n k).rd i j) (n := n) (k := k) (by simp [h1.1,h1.2.1]) h.hk (fun i j => by
   simp only [turn_rd v h]
   by_cases c : n = i ∧ k = j
   ·simp [c]
   ·simp [c]) h.hn]
  omega
 ·have h1 := h.wr
  have hrd : (turnS p s 2 n k).rd = s.rd := by rw [turn2]
  rw [hrd,cnt_set (f := fun n k => act p n k && !bAt s.wr n k) (g := fun i j => act p i j && !bAt (turnS p s 2 n k).wr i j) (n := n) (k := k) (by simp [h1.1,h1.2.1]) h.hk (fun i j => by
   simp only [turn_wr v h]
   by_cases c : n = i ∧ k = j
   ·simp [c]
   ·simp [c]) h.hn]
  omega
theorem togo_le {p : Plan} {s : StT} (v : Valid p s) : togo p s ≤ 64 := by
 unfold togo
 have h1 := cnt_le (fun n k => prt p n k && !bAt s.rd n k) (nT p) (mS p)
 have h2 := cnt_le (fun n k => act p n k && !bAt s.wr n k) (nT p) (mS p)
 obtain ⟨_,_,h3,h4,_⟩ := oO v.plan
 have : nT p * mS p ≤ 8 * 4 := Nat.mul_le_mul h4 h3
 omega
end Go.Proofs.YtjgmbgfcffnanaaGreatDoor
