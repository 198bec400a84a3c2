/- A logic over the model: immutable memory, values that are read in it, names of what the call owns. Over any program. No condition. -/
import Derived.WalkKit
import Derived.WalkSpells
import Derived.WalkLawsBesides
import Derived.Handy
import Derived.Lib.Hide
import Derived.OrdersHeld
import Derived.Laws.AppendOwn
import Derived.LoopN
import Derived.LoopNIn
import Derived.OrdersIn
import Derived.TacticsIn
import Derived.RangeFuncNested
import Derived.RangeFuncLeaves
import Derived.RangeFuncCalls
import Derived.ChangeKeysEq
import Derived.Laws.OwnMore
import Derived.Laws.CopyRow
import Derived.Laws.MakeOwn
namespace Go.Proofs.YtjgmbgfcffnanaaGreatDoor
open Go.RowKit
abbrev Mem := Nat → Option (Array Value)
def Mem.le (μ ν : Mem) : Prop := ∀ b cs,μ b = some cs → ν b = some cs
theorem Mem.le.refl (μ : Mem) : Mem.le μ μ := fun _ _ h => h
theorem Mem.le.trans {μ ν κ : Mem} (h : Mem.le μ ν) (k : Mem.le ν κ) : Mem.le μ κ := fun b cs e => k b cs (h b cs e)
def Agr (μ : Mem) (w : World) : Prop := ∀ b cs,μ b = some cs → ∃ t fz,w.heap[b]? = some (.cells cs t fz)
theorem Agr.lt {μ : Mem} {w : World} (h : Agr μ w) {b : Nat} (hb : μ b ≠ none) : b < w.heap.size := by
 cases e : μ b with
 | none => exact absurd e hb
 | some cs =>
  obtain ⟨t,fz,hh⟩ := h b cs e
  exact (Array.getElem?_eq_some_iff.1 hh).1
structure IV where
 p : Mem → Value → Prop
 mono : ∀ {μ ν : Mem} {v : Value},Mem.le μ ν → p μ v → p ν v
def IVs (μ : Mem) : List IV → List Value → Prop
 | [],vs => vs = []
 | s :: l,vs => ∃ v vs',vs = v :: vs' ∧ s.p μ v ∧ IVs μ l vs'
theorem IVs.mono {μ ν : Mem} (h : Mem.le μ ν) : ∀ {l : List IV} {vs : List Value},IVs μ l vs → IVs ν l vs
 | [],_,h0 => h0
 | s :: _,_,⟨v,vs',e,h1,h2⟩ => ⟨v,vs',e,s.mono h h1,IVs.mono h h2⟩
theorem IVs.length {μ : Mem} : ∀ {l : List IV} {vs : List Value},IVs μ l vs → vs.length = l.length
 | [],_,h => by cases h;rfl
 | _ :: _,_,⟨v,vs',e,_,h2⟩ => by subst e;simp [IVs.length h2]
theorem IVs.get {μ : Mem} : ∀ {l : List IV} {vs : List Value},IVs μ l vs → ∀ {j : Nat} {s : IV},l[j]? = some s → ∃ v,vs[j]? = some v ∧ s.p μ v
 | [],_,_,j,s,hj => by simp at hj
 | s0 :: l,_,⟨v,vs',e,h1,h2⟩,0,s,hj => by subst e;simp at hj;subst hj;exact ⟨v,rfl,h1⟩
 | s0 :: l,_,⟨v,vs',e,h1,h2⟩,j + 1,s,hj => by subst e;exact IVs.get h2 (by simpa using hj)
def IV.val (u : Value) : IV := ⟨fun _ v => v = u,fun _ h => h⟩
def IV.any : IV := ⟨fun _ _ => True,fun _ h => h⟩
abbrev IV.int (n : Int) : IV := IV.val (.int .i64 n)
abbrev IV.bool (b : Bool) : IV := IV.val (.bool b)
def One (vs : List Value) : Prop := ∀ u ∈ vs,u.oneCell' = true
def IV.agg (l : List IV) : IV := ⟨fun μ v => ∃ vs : List Value,v = .agg vs.toArray ∧ IVs μ l vs ∧ One vs,fun h ⟨vs,e,k,o⟩ => ⟨vs,e,k.mono h,o⟩⟩
def IV.tup (l : List IV) : IV := ⟨fun μ v => ∃ vs : List Value,v = .tuple vs.toArray ∧ IVs μ l vs,fun h ⟨vs,e,k⟩ => ⟨vs,e,k.mono h⟩⟩
def IV.fn (f : FuncId) (caps : List IV) : IV := ⟨fun μ v => ∃ vs : List Value,v = .func (.func f) #[] vs.toArray ∧ IVs μ caps vs,fun h ⟨vs,e,k⟩ => ⟨vs,e,k.mono h⟩⟩
def Cells (μ : Mem) (b o : Nat) (l : List IV) : Prop := ∀ j s,l[j]? = some s → ∃ cs v,μ b = some cs ∧ cs[o + j]? = some v ∧ s.p μ v ∧ v.oneCell' = true
theorem Cells.mono {μ ν : Mem} {b o : Nat} {l : List IV} (h : Mem.le μ ν) (k : Cells μ b o l) : Cells ν b o l := fun j s hj => by
 obtain ⟨cs,v,h1,h2,h3,h4⟩ := k j s hj
 exact ⟨cs,v,h _ _ h1,h2,s.mono h h3,h4⟩
theorem Cells.drop {μ : Mem} {b o : Nat} {l : List IV} (k : Cells μ b o l) (n : Nat) : Cells μ b (o + n) (l.drop n) := fun j s hj => by
 rw [List.getElem?_drop] at hj
 obtain ⟨cs,v,h1,h2,h3⟩ := k _ s hj
 exact ⟨cs,v,h1,by rw [Nat.add_assoc];exact h2,h3⟩
def IV.ptr (l : List IV) : IV := ⟨fun μ v => ∃ b o,v = .pointer (some ⟨b,o,none⟩) ∧ Cells μ b o l,fun h ⟨b,o,e,k⟩ => ⟨b,o,e,k.mono h⟩⟩
def IV.view {α : Type} (k : Nat) (enc : α → List IV) (xs : List α) : IV :=
 ⟨fun μ v => ∃ A c,v = .slice A xs.length c ∧ xs.length ≤ c ∧ c ≤ maxLen ∧ (xs = [] ∨ ∃ b o,A = some ⟨b,o,none⟩ ∧ ∀ i x,xs[i]? = some x → Cells μ b (o + i * k) (enc x)),
  fun h ⟨A,c,e,l1,l2,k⟩ => ⟨A,c,e,l1,l2,k.imp id fun ⟨b,o,hA,k⟩ => ⟨b,o,hA,fun i x hx => (k i x hx).mono h⟩⟩⟩
inductive SV where
 | im (s : IV)
 | off (i o : Nat)
 | row (i n : Nat)
 | agg (l : List SV)
 | cnd (b : Bool) (s : SV)
 | fn (f : FuncId) (l : List SV)
 | is (u : Value) (s : SV)
 | hd (i : Nat)
 | pk (n : Nat) (l : List SV)
 | tup (l : List SV)
 | sl (i n : Nat)
 | pp (l : List SV)
abbrev Nms := Nat → Option Value
def blk : Value → Option Nat
 | .pointer (some ⟨g,0,none⟩) => some g
 | .slice (some ⟨g,0,none⟩) _ _ => some g
 | .map (some g) => some g
 | _ => none
mutual
def SV.R (ρ : Nms) (μ : Mem) : SV → Value → Prop
 | .im s,v => s.p μ v
 | .off i o,v => ∃ g,(ρ i).bind blk = some g ∧ v = .pointer (some ⟨g,o,none⟩)
 | .row i n,v => ρ i = some v ∧ ∃ A c,v = .slice A n c ∧ (n = 0 ∨ ∃ g,A = some ⟨g,0,none⟩)
 | .agg l,v => ∃ vs : List Value,v = .agg vs.toArray ∧ SV.Rs ρ μ l vs ∧ One vs
 | .cnd b s,v => (b = true → SV.R ρ μ s v) ∧ (b = false → v = undef)
 | .fn f l,v => ∃ vs : List Value,v = .func (.func f) #[] vs.toArray ∧ SV.Rs ρ μ l vs
 | .is u s,v => v = u ∧ SV.R ρ μ s v
 | .hd i,v => ρ i = some v
 | .pk n l,v => ∃ b,∃ vs : List Value,v = .slice (some ⟨b,0,none⟩) n n ∧ μ b = some vs.toArray ∧ SV.Rs ρ μ l vs ∧ One vs
 | .tup l,v => ∃ vs : List Value,v = .tuple vs.toArray ∧ SV.Rs ρ μ l vs
 | .sl i n,v => ∃ g,(ρ i).bind blk = some g ∧ v = .slice (some ⟨g,0,none⟩) n n
 | .pp l,v => ∃ b o,∃ us : List Value,v = .pointer (some ⟨b,o,none⟩) ∧ μ b = some us.toArray ∧ SV.Rs ρ μ l (us.drop o) ∧ One (us.drop o)
def SV.Rs (ρ : Nms) (μ : Mem) : List SV → List Value → Prop
 | [],vs => vs = []
 | s :: l,vs => ∃ v vs',vs = v :: vs' ∧ SV.R ρ μ s v ∧ SV.Rs ρ μ l vs'
end
def Nms.le (ρ ρ' : Nms) : Prop := ∀ i v,ρ i = some v → ρ' i = some v
theorem Nms.le.refl (ρ : Nms) : Nms.le ρ ρ := fun _ _ h => h
mutual
theorem SV.R.mono {ρ ρ' : Nms} {μ ν : Mem} (hr : Nms.le ρ ρ') (h : Mem.le μ ν) : ∀ {s : SV} {v : Value},SV.R ρ μ s v → SV.R ρ' ν s v
 | .im s,v,k => by unfold SV.R at k ⊢;exact s.mono h k
 | .off i o,v,k => by
  unfold SV.R at k ⊢
  obtain ⟨g,h1,h2⟩ := k
  cases e : ρ i with
  | none => rw [e] at h1;cases h1
  | some u => rw [e] at h1;exact ⟨g,by rw [hr i u e];exact h1,h2⟩
 | .sl i n,v,k => by
  unfold SV.R at k ⊢
  obtain ⟨g,h1,h2⟩ := k
  cases e : ρ i with
  | none => rw [e] at h1;cases h1
  | some u => rw [e] at h1;exact ⟨g,by rw [hr i u e];exact h1,h2⟩
 | .row i n,v,k => by unfold SV.R at k ⊢;exact ⟨hr _ _ k.1,k.2⟩
 | .agg l,v,k => by unfold SV.R at k ⊢;obtain ⟨vs,e,k,o⟩ := k;exact ⟨vs,e,SV.Rs.mono hr h k,o⟩
 | .cnd b s,v,k => by unfold SV.R at k ⊢;exact ⟨fun hb => SV.R.mono hr h (k.1 hb),k.2⟩
 | .fn f l,v,k => by unfold SV.R at k ⊢;obtain ⟨vs,e,k⟩ := k;exact ⟨vs,e,SV.Rs.mono hr h k⟩
 | .is u s,v,k => by unfold SV.R at k ⊢;exact ⟨k.1,SV.R.mono hr h k.2⟩
 | .hd i,v,k => by unfold SV.R at k ⊢;exact hr _ _ k
 | .pk n l,v,k => by unfold SV.R at k ⊢;obtain ⟨b,vs,e,m,k,o⟩ := k;exact ⟨b,vs,e,h _ _ m,SV.Rs.mono hr h k,o⟩
 | .tup l,v,k => by unfold SV.R at k ⊢;obtain ⟨vs,e,k⟩ := k;exact ⟨vs,e,SV.Rs.mono hr h k⟩
 | .pp l,v,k => by unfold SV.R at k ⊢;obtain ⟨b,q,us,e,m,k,o⟩ := k;exact ⟨b,q,us,e,h _ _ m,SV.Rs.mono hr h k,o⟩
theorem SV.Rs.mono {ρ ρ' : Nms} {μ ν : Mem} (hr : Nms.le ρ ρ') (h : Mem.le μ ν) : ∀ {l : List SV} {vs : List Value},SV.Rs ρ μ l vs → SV.Rs ρ' ν l vs
 | [],_,k => by unfold SV.Rs at k ⊢;exact k
 | s :: l,_,k => by unfold SV.Rs at k ⊢;obtain ⟨v,vs',e,h1,h2⟩ := k;exact ⟨v,vs',e,SV.R.mono hr h h1,SV.Rs.mono hr h h2⟩
end
theorem SV.Rs.length {ρ : Nms} {μ : Mem} : ∀ {l : List SV} {vs : List Value},SV.Rs ρ μ l vs → vs.length = l.length
 | [],_,h => by unfold SV.Rs at h;cases h;rfl
 | _ :: _,_,h => by unfold SV.Rs at h;obtain ⟨v,vs',e,_,h2⟩ := h;subst e;simp [SV.Rs.length h2]
theorem SV.Rs.get {ρ : Nms} {μ : Mem} : ∀ {l : List SV} {vs : List Value},SV.Rs ρ μ l vs → ∀ {j : Nat} {s : SV},l[j]? = some s → ∃ v,vs[j]? = some v ∧ SV.R ρ μ s v
 | [],_,_,j,s,hj => by simp at hj
 | s0 :: l,_,h,0,s,hj => by unfold SV.Rs at h;obtain ⟨v,vs',e,h1,_⟩ := h;subst e;simp at hj;subst hj;exact ⟨v,rfl,h1⟩
 | s0 :: l,_,h,j + 1,s,hj => by unfold SV.Rs at h;obtain ⟨v,vs',e,_,h2⟩ := h;subst e;exact SV.Rs.get h2 (by simpa using hj)
theorem SV.Rs.im {ρ : Nms} {μ : Mem} : ∀ {l : List IV} {vs : List Value},SV.Rs ρ μ (l.map SV.im) vs ↔ IVs μ l vs
 | [],vs => by simp [SV.Rs,IVs]
 | s :: l,vs => by
  simp only [List.map_cons]
  unfold SV.Rs IVs
  constructor
  ·rintro ⟨v,vs',e,h1,h2⟩;unfold SV.R at h1;exact ⟨v,vs',e,h1,SV.Rs.im.1 h2⟩
  ·rintro ⟨v,vs',e,h1,h2⟩;exact ⟨v,vs',e,by unfold SV.R;exact h1,SV.Rs.im.2 h2⟩
theorem SV.Rs.set {ρ : Nms} {μ : Mem} {s : SV} {v : Value} (h1 : SV.R ρ μ s v) : ∀ {l : List SV} {vs : List Value},SV.Rs ρ μ l vs → ∀ (j : Nat),SV.Rs ρ μ (l.set j s) (vs.set j v)
 | [],_,h,j => by unfold SV.Rs at h;subst h;simp [SV.Rs]
 | s0 :: l,_,h,0 => by unfold SV.Rs at h;obtain ⟨u,vs',e,_,h2⟩ := h;subst e;simp only [List.set_cons_zero];unfold SV.Rs;exact ⟨v,vs',rfl,h1,h2⟩
 | s0 :: l,_,h,j + 1 => by unfold SV.Rs at h;obtain ⟨u,vs',e,hu,h2⟩ := h;subst e;simp only [List.set_cons_succ];unfold SV.Rs;exact ⟨u,_,rfl,hu,SV.Rs.set h1 h2 j⟩
inductive HObj : Type 1 where
 | blk (t : TypeId) (cs : List SV)
 | row (t k : Nat) {α : Type} (enc : α → List IV) (xs : List α)
 | obj (O : Obj → Prop)
 | nest (t et k : Nat) {α : Type} (enc : α → List IV) (xss : List (List α))
def IvFlat {α : Type} (μ : Mem) (enc : α → List IV) (xs : List α) (us : List Value) : Prop := IVs μ (xs.flatMap enc) us
abbrev Ent := Nat × HObj
def HObj.span : HObj → Nat
 | .nest _ _ _ _ xss => xss.length + 1
 | _ => 1
theorem HObj.span_pos (o : HObj) : 0 < o.span := by cases o <;> simp [HObj.span]
def RowOk (μ : Mem) (w : World) (t k : Nat) {α : Type} (enc : α → List IV) (xs : List α) (v : Value) : Prop := ∃ us,w.ownsRow 0 t k v xs.length us ∧ IvFlat μ enc xs us ∧ (∀ g,v.ownBlock = some g → μ g = none) ∧ One us
def EntOk (ρ : Nms) (μ : Mem) (w : World) : Ent → Prop
 | (i,.blk t cs) => ∃ g us,ρ i = some (.pointer (some ⟨g,0,none⟩)) ∧ w.heap[g]? = some (.cells us t (0,0)) ∧ SV.Rs ρ μ cs us.toList ∧ μ g = none ∧ One us.toList
 | (i,.row t k enc xs) => ∃ v us,ρ i = some v ∧ w.ownsRow 0 t k v xs.length us ∧ IvFlat μ enc xs us ∧ (∀ x,(enc x).length = k) ∧ (∀ g,v.ownBlock = some g → μ g = none) ∧ One us
 | (i,.obj O) => ∃ g o,ρ i = some (.map (some g)) ∧ w.heap[g]? = some o ∧ O o ∧ μ g = none
 | (i,.nest t et k enc xss) => xss.length < 16 ∧ (∀ x,(enc x).length = k) ∧ (∃ v us,ρ i = some v ∧ w.ownsRow 0 t 1 v xss.length us ∧ (∀ g,v.ownBlock = some g → μ g = none) ∧
  ∀ j xs,xss[j]? = some xs → ∃ u,us[j]? = some u ∧ ρ (i + 1 + j) = some u ∧ RowOk μ w et k enc xs u) ∧
  ∀ j j',j ≤ xss.length → j' ≤ xss.length → j ≠ j' → ∀ g,(ρ (i + j)).bind blk = some g → (ρ (i + j')).bind blk ≠ some g
def eb (ρ : Nms) (e : Ent) (g : Nat) : Prop := ∃ j,j < e.2.span ∧ (ρ (e.1 + j)).bind blk = some g
theorem yh {ρ : Nms} {e : Ent} {g : Nat} (h : (ρ e.1).bind blk = some g) : eb ρ e g := ⟨0,e.2.span_pos,h⟩
theorem uq {ρ : Nms} {i : Nat} {o : HObj} (ho : o.span = 1) {g : Nat} : eb ρ (i,o) g ↔ (ρ i).bind blk = some g :=
 ⟨fun ⟨j,hj,h⟩ => by
  have : j = 0 := by simp only [ho] at hj;omega
  subst this;exact h,fun h => yh h⟩
def HeapOk (ρ : Nms) (μ : Mem) (w : World) (H : List Ent) : Prop := (∀ e ∈ H,EntOk ρ μ w e) ∧ ∀ e ∈ H,∀ e' ∈ H,e.1 ≠ e'.1 → ∀ g,eb ρ e g → ¬ eb ρ e' g
structure Stp (μ : Mem) (w : World) (μ' : Mem) (w' : World) : Prop where
 below : Below w.heap.size w w'
 le : Mem.le μ μ'
 new : ∀ b,μ' b ≠ none → μ b ≠ none ∨ w.heap.size ≤ b
 agr : Agr μ' w'
theorem Stp.refl {μ : Mem} {w : World} (h : Agr μ w) : Stp μ w μ w := ⟨Below.refl _ _,Mem.le.refl _,fun _ h => .inl h,h⟩
theorem Stp.none {μ ν : Mem} {a b : World} (h : Stp μ a ν b) {g : Nat} (hg : g < a.heap.size) (h0 : μ g = none) : ν g = none := by
 cases e : ν g with
 | none => rfl
 | some cs =>
  rcases h.new g (by rw [e];simp) with h1 | h1
  ·exact absurd h0 h1
  ·omega
theorem ownBlock_blk {v : Value} {g : Nat} (h : v.ownBlock = some g) : ∃ A n c,v = .slice A n c := by
 cases v <;> simp [Value.ownBlock] at h
 exact ⟨_,_,_,rfl⟩
theorem oh {w : World} {B : Nat} {e : TypeId} {k : Nat} {v : Value} {n : Nat} {us : List Value} (h : w.ownsRow B e k v n us) : blk v = v.ownBlock := by
 rcases h.2 with ⟨rfl,_⟩ | ⟨g,cap,cur,rfl,_⟩
 ·rfl
 ·rfl
theorem uw {w : World} {B : Nat} {e : TypeId} {k : Nat} {v : Value} {n : Nat} {us : List Value} (h : w.ownsRow B e k v n us) {g : Nat} (hg : v.ownBlock = some g) : g < w.heap.size := (World.ownsRow.lt h g hg).2
theorem uU {w w' : World} {B : Nat} {e : TypeId} {k : Nat} {v : Value} {n : Nat} {us : List Value} (h : w.ownsRow B e k v n us) (hs : ∀ g,v.ownBlock = some g → w'.heap[g]? = w.heap[g]?) : w'.ownsRow B e k v n us := by
 obtain ⟨h1,h2⟩ := h
 refine ⟨h1,?_⟩
 rcases h2 with h2 | ⟨g,cap,cur,hv,hg,hh,r⟩
 ·exact .inl h2
 ·exact .inr ⟨g,cap,cur,hv,hg,(hs g (by subst hv;rfl)).trans hh,r⟩
theorem EntOk.lt {ρ : Nms} {μ : Mem} {w : World} {e : Ent} (h : EntOk ρ μ w e) {g : Nat} (hg : eb ρ e g) : g < w.heap.size ∧ μ g = none := by
 obtain ⟨i,o⟩ := e
 cases o with
 | blk t cs =>
  obtain ⟨g',us,h1,h2,_,h4,_⟩ := h
  rw [uq rfl] at hg
  simp only [h1,Option.bind_some,blk,Option.some.injEq] at hg
  subst hg
  exact ⟨(Array.getElem?_eq_some_iff.1 h2).1,h4⟩
 | row t k enc xs =>
  obtain ⟨v,us,h1,h2,_,_,h4,_⟩ := h
  rw [uq rfl] at hg
  simp only [h1,Option.bind_some] at hg
  rw [oh h2] at hg
  exact ⟨uw h2 hg,h4 g hg⟩
 | obj O =>
  obtain ⟨g',o,h1,h2,_,h4⟩ := h
  rw [uq rfl] at hg
  simp only [h1,Option.bind_some,blk,Option.some.injEq] at hg
  subst hg
  exact ⟨(Array.getElem?_eq_some_iff.1 h2).1,h4⟩
 | nest t et k enc xss =>
  obtain ⟨_,_,⟨v,us,h1,h2,h3,h4⟩,_⟩ := h
  obtain ⟨j,hj,hg⟩ := hg
  cases j with
  | zero =>
   simp only [Nat.add_zero,h1,Option.bind_some] at hg
   rw [oh h2] at hg
   exact ⟨uw h2 hg,h3 g hg⟩
  | succ j =>
   have hj : j < xss.length := by simpa [HObj.span] using hj
   obtain ⟨u,_,h6,us',h7,_,h9,_⟩ := h4 j _ (List.getElem?_eq_getElem hj)
   rw [show i + (j + 1) = i + 1 + j by omega] at hg
   simp only [h6,Option.bind_some] at hg
   rw [oh h7] at hg
   exact ⟨uw h7 hg,h9 g hg⟩
theorem RowOk.keep {μ μ' : Mem} {w w' : World} {t k : Nat} {α : Type} {enc : α → List IV} {xs : List α} {v : Value} (h : RowOk μ w t k enc xs v) (hm : Mem.le μ μ') (hb : ∀ g,blk v = some g → w'.heap[g]? = w.heap[g]? ∧ μ' g = none) : RowOk μ' w' t k enc xs v := by
 obtain ⟨us,h2,h3,h4,h6⟩ := h
 have h0 : ∀ g,v.ownBlock = some g → w'.heap[g]? = w.heap[g]? ∧ μ' g = none := fun g hg => hb g (by rw [oh h2];exact hg)
 exact ⟨us,uU h2 fun g hg => (h0 g hg).1,h3.mono hm,fun g hg => (h0 g hg).2,h6⟩
theorem EntOk.names {ρ : Nms} {μ : Mem} {w : World} {e : Ent} (h : EntOk ρ μ w e) : ∀ j,j < e.2.span → ρ (e.1 + j) ≠ none := by
 obtain ⟨i,o⟩ := e
 intro j hj
 cases o with
 | blk t cs => obtain ⟨g,us,h1,_⟩ := h;have : j = 0 := by simp only [HObj.span] at hj;omega
               subst this;simp [h1]
 | row t k enc xs => obtain ⟨g,us,h1,_⟩ := h;have : j = 0 := by simp only [HObj.span] at hj;omega
                     subst this;simp [h1]
 | obj O => obtain ⟨g,us,h1,_⟩ := h;have : j = 0 := by simp only [HObj.span] at hj;omega
            subst this;simp [h1]
 | nest t et k enc xss =>
  obtain ⟨_,_,⟨v,us,h1,h2,h3,h4⟩,_⟩ := h
  cases j with
  | zero => simp [h1]
  | succ j =>
   have hj : j < xss.length := by simpa [HObj.span] using hj
   obtain ⟨u,_,h6,_⟩ := h4 j _ (List.getElem?_eq_getElem hj)
   show ρ (i + (j + 1)) ≠ none
   rw [show i + (j + 1) = i + 1 + j by omega,h6];simp
theorem EntOk.keep {ρ ρ' : Nms} {μ μ' : Mem} {w w' : World} {e : Ent} (h : EntOk ρ μ w e) (hr : Nms.le ρ ρ') (hm : Mem.le μ μ') (hb : ∀ g,eb ρ e g → w'.heap[g]? = w.heap[g]? ∧ μ' g = none) : EntOk ρ' μ' w' e := by
 obtain ⟨i,o⟩ := e
 cases o with
 | blk t cs =>
  obtain ⟨g,us,h1,h2,h3,h4,h6⟩ := h
  have := hb g (yh (by simp [h1,blk]))
  exact ⟨g,us,hr _ _ h1,this.1.trans h2,h3.mono hr hm,this.2,h6⟩
 | row t k enc xs =>
  obtain ⟨v,us,h1,h2,h3,h5,h4,h6⟩ := h
  have h0 : ∀ g,v.ownBlock = some g → w'.heap[g]? = w.heap[g]? ∧ μ' g = none := fun g hg => hb g (yh (by simp only [h1,Option.bind_some];rw [oh h2];exact hg))
  exact ⟨v,us,hr _ _ h1,uU h2 fun g hg => (h0 g hg).1,h3.mono hm,h5,fun g hg => (h0 g hg).2,h6⟩
 | obj O =>
  obtain ⟨g,o,h1,h2,h3,h4⟩ := h
  have := hb g (yh (by simp [h1,blk]))
  exact ⟨g,o,hr _ _ h1,this.1.trans h2,h3,this.2⟩
 | nest t et k enc xss =>
  have hn := EntOk.names h
  obtain ⟨hl,hk,⟨v,us,h1,h2,h3,h4⟩,h5⟩ := h
  have h0 : ∀ g,v.ownBlock = some g → w'.heap[g]? = w.heap[g]? ∧ μ' g = none := fun g hg => hb g (yh (by simp only [h1,Option.bind_some];rw [oh h2];exact hg))
  refine ⟨hl,hk,⟨v,us,hr _ _ h1,uU h2 fun g hg => (h0 g hg).1,fun g hg => (h0 g hg).2,fun j xs hj => ?_⟩,fun j j' hj hj' hne g => ?_⟩
  ·obtain ⟨u,h6,h7,h8⟩ := h4 j xs hj
   refine ⟨u,h6,hr _ _ h7,h8.keep hm fun g hg => hb g ⟨j + 1,?_,?_⟩⟩
   ·have := (List.getElem?_eq_some_iff.1 hj).1
    simp only [HObj.span];omega
   ·show (ρ (i + (j + 1))).bind blk = some g
    rw [show i + (j + 1) = i + 1 + j by omega,h7];exact hg
  ·have same : ∀ q,q ≤ xss.length → ρ' (i + q) = ρ (i + q) := fun q hq => by
    have := hn q (by simp only [HObj.span];omega)
    cases e : ρ (i + q) with
    | none => exact absurd e this
    | some u => exact hr _ _ e
   rw [same j hj,same j' hj']
   exact h5 j j' hj hj' hne g
theorem eb_at {ρ ρ' : Nms} {e : Ent} (h : ∀ j,j < e.2.span → ρ' (e.1 + j) = ρ (e.1 + j)) : eb ρ' e = eb ρ e := by
 funext g
 exact propext ⟨fun ⟨j,hj,h1⟩ => ⟨j,hj,by rw [← h j hj];exact h1⟩,fun ⟨j,hj,h1⟩ => ⟨j,hj,by rw [h j hj];exact h1⟩⟩
theorem eb_le {ρ ρ' : Nms} (hr : Nms.le ρ ρ') {e : Ent} (h : ∀ j,j < e.2.span → ρ (e.1 + j) ≠ none) : eb ρ' e = eb ρ e := eb_at fun j hj => by
 cases k : ρ (e.1 + j) with
 | none => exact absurd k (h j hj)
 | some v => exact hr _ _ k
theorem EntOk.named {ρ : Nms} {μ : Mem} {w : World} {e : Ent} (h : EntOk ρ μ w e) : ∀ j,j < e.2.span → ρ (e.1 + j) ≠ none := h.names
theorem HeapOk.keep {ρ ρ' : Nms} {μ μ' : Mem} {w w' : World} {H : List Ent} (h : HeapOk ρ μ w H) (hr : Nms.le ρ ρ') (hm : Mem.le μ μ') (hb : ∀ e ∈ H,∀ g,eb ρ e g → w'.heap[g]? = w.heap[g]? ∧ μ' g = none) : HeapOk ρ' μ' w' H :=
 ⟨fun e he => (h.1 e he).keep hr hm (hb e he),fun e he e' he' hne g hg => by rw [eb_le hr (h.1 e' he').named];rw [eb_le hr (h.1 e he).named] at hg;exact h.2 e he e' he' hne g hg⟩
theorem HeapOk.sub {ρ : Nms} {μ : Mem} {w : World} {H H' : List Ent} (h : HeapOk ρ μ w H) (hs : ∀ e ∈ H',e ∈ H) : HeapOk ρ μ w H' := ⟨fun e he => h.1 e (hs e he),fun e he e' he' => h.2 e (hs e he) e' (hs e' he')⟩
theorem HeapOk.stp {ρ : Nms} {μ μ' : Mem} {w w' : World} {H : List Ent} (h : HeapOk ρ μ w H) (hs : Stp μ w μ' w') : HeapOk ρ μ' w' H :=
 h.keep (Nms.le.refl _) hs.le fun e he g hg => by
  obtain ⟨h1,h2⟩ := (h.1 e he).lt hg
  exact ⟨hs.below.block g h1,hs.none h1 h2⟩
abbrev Env := List (Nat × SV)
def lk : Env → Nat → Option SV
 | [],_ => none
 | (d,s) :: σ,t => match Nat.beq d t with
  | true => some s
  | false => lk σ t
def bnd (d : Option Tmp) (s : SV) (σ : Env) : Env := match d with
 | some d => (d,s) :: σ
 | none => σ
def EnvOk (ρ : Nms) (μ : Mem) (σ : Env) (ts : Array Value) : Prop := ∀ t s,lk σ t = some s → SV.R ρ μ s (ts.getD t undef)
theorem EnvOk.mono {ρ ρ' : Nms} {μ ν : Mem} {σ : Env} {ts : Array Value} (hr : Nms.le ρ ρ') (h : Mem.le μ ν) (k : EnvOk ρ μ σ ts) : EnvOk ρ' ν σ ts := fun t s e => (k t s e).mono hr h
theorem getD_set (ts : Array Value) (d t : Nat) (v u : Value) (h : d < ts.size) : (ts.setIfInBounds d v).getD t u = if d = t then v else ts.getD t u := by
 simp only [Array.getD_eq_getD_getElem?,Array.getElem?_setIfInBounds]
 by_cases e : d = t
 ·subst e;simp [h]
 ·simp [e]
theorem EnvOk.bnd {ρ : Nms} {μ : Mem} {σ : Env} {a : Act} {d : Option Tmp} {s : SV} {v : Value} (k : EnvOk ρ μ σ a.tmps) (hd : ∀ x,d = some x → x < a.tmps.size) (hs : SV.R ρ μ s v) : EnvOk ρ μ (Go.Proofs.YtjgmbgfcffnanaaGreatDoor.bnd d s σ) (a.put d v).tmps := by
 cases d with
 | none => exact k
 | some d =>
  intro t s' e
  show SV.R ρ μ s' ((a.tmps.setIfInBounds d v).getD t undef)
  rw [getD_set _ _ _ _ _ (hd d rfl)]
  simp only [Go.Proofs.YtjgmbgfcffnanaaGreatDoor.bnd,lk] at e
  cases hb : Nat.beq d t with
  | true =>
   rw [hb] at e
   have := Nat.eq_of_beq_eq_true hb
   rw [if_pos this]
   injection e with e;subst e;exact hs
  | false =>
   rw [hb] at e
   have : d ≠ t := Nat.ne_of_beq_eq_false hb
   rw [if_neg this]
   exact k t s' e
structure St : Type 1 where
 σ : Env
 H : List Ent
 fr : Nat
structure TyInf where
 und : TypeDesc
 zero : Value
 size : Nat
 bytes : Nat
def TyIs (P : Program) (t : TypeId) (d : TyInf) : Prop := P.underlying t = some d.und ∧ ∃ i,P.info? t = some i ∧ i.zero = some d.zero ∧ i.size = d.size ∧ i.bytes = d.bytes
structure Cfg where
 P : Program
 tt : TypeId → Option TyInf
 ok : ∀ t d,tt t = some d → TyIs P t d
 mixed : P.follows .mixedOrders = true
def ghT : Nat := 999983
def IV.gh (M : Mem) : IV := ⟨fun μ _ => Mem.le M μ,fun h k => k.trans h⟩
def IV.wth (M : Mem) (s : IV) : IV := ⟨fun μ v => s.p μ v ∧ Mem.le M μ,fun h k => ⟨s.mono h k.1,k.2.trans h⟩⟩
def GhR (σ : Env) (μ : Mem) : Prop := ∀ M,lk σ ghT = some (.im (IV.gh M)) → Mem.le M μ
def looks (o : Oper) : List Tmp := ghT :: o.op.operands.toList.filterMap fun | .tmp t => some t | _ => none
def LookOk (ρ : Nms) (μ : Mem) (σ : Env) (o : Oper) (a : Act) : Prop := ∀ t ∈ looks o,∀ s,lk σ t = some s → SV.R ρ μ s (a.tmps.getD t undef)
theorem EnvOk.look {ρ : Nms} {μ : Mem} {σ : Env} {a : Act} (h : EnvOk ρ μ σ a.tmps) (o : Oper) : LookOk ρ μ σ o a := fun t _ s hs => h t s hs
def NoExit : Exit → Act → World → Prop := fun _ _ _ => False
theorem noLets : ¬ LetsOut NoExit := fun ⟨_,_,h⟩ => h
def upd (ρ : Nms) (i : Nat) (v : Value) : Nms := fun j => if j = i then some v else ρ j
theorem vv {ρ : Nms} {i : Nat} {v : Value} (h : ρ i = none) : Nms.le ρ (upd ρ i v) := fun j u hj => by
 unfold upd
 by_cases e : j = i
 ·subst e;rw [h] at hj;cases hj
 ·rw [if_neg e];exact hj
theorem oY (ρ : Nms) (i : Nat) (v : Value) : upd ρ i v i = some v := if_pos rfl
structure EStp (ρ : Nms) (H : List Ent) (μ : Mem) (w : World) (ρ' : Nms) (H' : List Ent) (μ' : Mem) (w' : World) : Prop where
 os : w'.os = w.os
 tape : w'.tape = w.tape
 output : w'.output = w.output
 size : w.heap.size ≤ w'.heap.size
 block : ∀ k,k < w.heap.size → (∀ e ∈ H,¬ eb ρ e k) → w'.heap[k]? = w.heap[k]?
 le : Mem.le μ μ'
 new : ∀ b,μ' b ≠ none → μ b ≠ none ∨ w.heap.size ≤ b ∨ ∃ e ∈ H,eb ρ e b
 agr : Agr μ' w'
 own : ∀ e ∈ H',∀ g,eb ρ' e g → (∃ e0 ∈ H,eb ρ e0 g) ∨ w.heap.size ≤ g
section
variable (C : Cfg)
def OpN (o : Oper) (σ : Env) (s : SV) : Prop := ∀ ρ μ a w,LookOk ρ μ σ o a → Agr μ w →
 o.wp C.P a w (fun a' w' => ∃ v μ',a' = a.put o.dst v ∧ SV.R ρ μ' s v ∧ Stp μ w μ' w') NoExit
def OpA (o : Oper) (σ : Env) (fr : Nat) (s : SV) (x : HObj) : Prop := x.span = 1 ∧ ∀ ρ μ a w,LookOk ρ μ σ o a → Agr μ w → ρ fr = none →
 o.wp C.P a w (fun a' w' => ∃ v μ',a' = a.put o.dst v ∧ SV.R (upd ρ fr v) μ' s v ∧ EntOk (upd ρ fr v) μ' w' (fr,x) ∧ (∀ g,blk v = some g → w.heap.size ≤ g) ∧ Stp μ w μ' w') NoExit
theorem OpA.of {C : Cfg} {o : Oper} {σ : Env} {fr : Nat} {s : SV} {x : HObj} (h : x.span = 1) (k : ∀ ρ μ a w,LookOk ρ μ σ o a → Agr μ w → ρ fr = none →
 o.wp C.P a w (fun a' w' => ∃ v μ',a' = a.put o.dst v ∧ SV.R (upd ρ fr v) μ' s v ∧ EntOk (upd ρ fr v) μ' w' (fr,x) ∧ (∀ g,blk v = some g → w.heap.size ≤ g) ∧ Stp μ w μ' w') NoExit) : OpA C o σ fr s x := ⟨h,k⟩
def OpE (o : Oper) (σ : Env) (H : List Ent) (fr : Nat) (s : SV) (H' : List Ent) (fr' : Nat) : Prop := ∀ ρ μ a w,LookOk ρ μ σ o a → Agr μ w → HeapOk ρ μ w H → (∀ i,fr ≤ i → i < fr' → ρ i = none) →
 o.wp C.P a w (fun a' w' => ∃ v μ' ρ',a' = a.put o.dst v ∧ SV.R ρ' μ' s v ∧ HeapOk ρ' μ' w' H' ∧ Nms.le ρ ρ' ∧ (∀ i,ρ' i ≠ none → ρ i ≠ none ∨ (fr ≤ i ∧ i < fr')) ∧ EStp ρ H μ w ρ' H' μ' w') NoExit
def OpR (o : Oper) (σ : Env) (H : List Ent) (s : SV) : Prop := ∀ ρ μ a w,LookOk ρ μ σ o a → Agr μ w → HeapOk ρ μ w H →
 o.wp C.P a w (fun a' w' => ∃ v μ',a' = a.put o.dst v ∧ SV.R ρ μ' s v ∧ Stp μ w μ' w') NoExit
def dok (nt : Nat) (o : Oper) : Bool := match o.dst with
 | some d => Nat.blt d nt
 | none => true
theorem jn {nt : Nat} {o : Oper} (h : dok nt o = true) : ∀ d,o.dst = some d → d < nt := by
 intro d e
 simp only [dok,e] at h
 exact (Nat.blt_eq ▸ h : d < nt)
def gd : Bool → Bool → Bool
 | true,c => c
 | false,c => !c
def yv : Value → Option Bool
 | .bool b => some b
 | _ => none
def Gq (s : SV) (b q : Bool) : Prop := ∀ ρ μ v,SV.R ρ μ s v → (yv v == some b) = q
theorem qy {b c : Bool} : Gq (.im (IV.bool c)) b (gd b c) := fun ρ μ v h => by
 unfold SV.R at h
 rw [show v = .bool c from h]
 cases b <;> cases c <;> rfl
theorem gq_cnd {g b c : Bool} : Gq (.cnd g (.im (IV.bool c))) b (g && gd b c) := fun ρ μ v h => by
 unfold SV.R at h
 cases g with
 | true => exact qy ρ μ v (h.1 rfl)
 | false => rw [h.2 rfl];rfl
def Yes (ops : Array Oper) (o : Oper) (σ : Env) : Prop := o.guard = none ∨ ∃ j d b s0,o.guard = some (j,b) ∧ (ops[j]?).bind (·.dst) = some d ∧ lk σ d = some s0 ∧ Gq s0 b true
inductive Step1 (ops : Array Oper) (nt : Nat) : Nat → Oper → St → SV → St → Prop
 | n {o : Oper} {x : St} {s : SV} (hg : Yes ops o x.σ) (hd : dok nt o = true) (h : OpN C o x.σ s) : Step1 ops nt 0 o x s ⟨bnd o.dst s x.σ,x.H,x.fr⟩
 | g {o : Oper} {x : St} {s s0 : SV} {j d : Nat} {b q : Bool} (hg : o.guard = some (j,b)) (hj : (ops[j]?).bind (·.dst) = some d) (hc : lk x.σ d = some s0) (hq : Gq s0 b q) (hd : dok nt o = true) (h : q = true → OpN C o x.σ s) :
  Step1 ops nt 0 o x (.cnd q s) ⟨bnd o.dst (.cnd q s) x.σ,x.H,x.fr⟩
 | r {o : Oper} {x : St} {s : SV} (hg : Yes ops o x.σ) (hd : dok nt o = true) (h : OpR C o x.σ x.H s) : Step1 ops nt 3 o x s ⟨bnd o.dst s x.σ,x.H,x.fr⟩
 | rg {o : Oper} {x : St} {s s0 : SV} {j d : Nat} {b q : Bool} (hg : o.guard = some (j,b)) (hj : (ops[j]?).bind (·.dst) = some d) (hc : lk x.σ d = some s0) (hq : Gq s0 b q) (hd : dok nt o = true) (h : q = true → OpR C o x.σ x.H s) :
  Step1 ops nt 3 o x (.cnd q s) ⟨bnd o.dst (.cnd q s) x.σ,x.H,x.fr⟩
 | a {o : Oper} {x : St} {s : SV} {ob : HObj} (hg : Yes ops o x.σ) (hd : dok nt o = true) (h : OpA C o x.σ x.fr s ob) : Step1 ops nt 1 o x s ⟨bnd o.dst s x.σ,(x.fr,ob) :: x.H,x.fr + 1⟩
 | e {o : Oper} {x : St} {s : SV} {H' : List Ent} {fr' : Nat} (hg : Yes ops o x.σ) (hd : dok nt o = true) (hf : x.fr ≤ fr') (h : OpE C o x.σ x.H x.fr s H' fr') : Step1 ops nt 2 o x s ⟨bnd o.dst s x.σ,H',fr'⟩
inductive AL (ops : Array Oper) (nt : Nat) : List Nat → List Oper → St → List SV → St → Prop
 | nil {x : St} : AL ops nt [] [] x [] x
 | cons {k : Nat} {o : Oper} {x y z : St} {s : SV} {ks : List Nat} {l : List Oper} {ss : List SV} (h : Step1 C ops nt k o x s y) (t : AL ops nt ks l y ss z) : AL ops nt (k :: ks) (o :: l) x (s :: ss) z
end
theorem put_defers0 (a : Act) (d : Option Tmp) (v : Value) : (a.put d v).defers = a.defers := by cases d <;> rfl
structure Fx where
 w0 : World
 μ0 : Mem
 G : Nat → Prop
 D : List Deferred
 ro : Option Nat
def Fx.fen (F : Fx) : Fence := { fn := fun _ => True,depth := none,alive := false,round := F.ro }
theorem fen_n {F : Fx} {n m : Nat} {P : Program} {c : Code} {Q : Exit → Act → World → Prop} {a : Act} {w : World} (h : c.wpIn F.fen n P Q a w) : c.wpIn F.fen m P Q a w := fun b k cs hro hb _ => h b k cs hro hb (fun _ hd => by cases hd)
theorem jB {F : Fx} (h : F.ro = none) : F.fen = Fence.wide := by unfold Fx.fen;rw [h];rfl
theorem no_defer {P : Program} {o : Oper} {a : Act} {w : World} {K : Act → World → Prop} (hK : ∀ a' w',K a' w' → a'.defers = a.defers) (h : o.wp P a w K NoExit) : ∀ c,o.op ≠ .defer c := fun c e => by
 unfold Oper.wp execOp at h
 rw [e] at h
 simp only [Sem.run_bind] at h
 cases hr : (resolve a.eval c o.type).run P w with
 | ok d w' =>
  rw [hr] at h
  simp only [Result.andThen_ok,Sem.run_pure,Oper.upon] at h
  have := congrArg List.length (hK _ _ h)
  rw [put_defers0] at this
  simp at this
 | halt e w' =>
  rw [hr] at h
  cases e <;> simp only [Result.andThen,Oper.upon] at h <;> exact h.elim
theorem jG {F : Fx} {n : Nat} {P : Program} {o : Oper} {a : Act} {w : World} {K K' : Act → World → Prop} {Q : Exit → Act → World → Prop} (hK : ∀ a' w',K a' w' → a'.defers = a.defers) (hKK : ∀ a' w',K a' w' → K' a' w') (h : o.wp P a w K NoExit) : o.wpIn F.fen n P a w K' Q := by
 refine ⟨fun _ _ => trivial,?_⟩
 rw [Oper.semAt_eq _ _ _ (no_defer hK h)]
 have h2 := Oper.wp_mono hKK h
 revert h2
 unfold Oper.wp
 generalize (execOp a.eval o).run P w = r
 intro h2
 cases r with
 | ok n w' =>
  cases n with
  | value v => exact h2
  | skip => exact h2
  | defer d => exact h2
  | enter f args =>
   refine ⟨fun hd => (by cases hd),?_⟩
   have h3 : Calls P f args w' _ := h2
   exact callsIn_wide.2 (Calls.mono h3 (fun e w'' he => by
    cases e with
    | returned v => exact he
    | panicked c => exact he.elim
    | outgrown => exact (noLets he).elim))
  | row row args =>
   refine ⟨fun hd => (by cases hd),fun c cs _ => ?_⟩
   obtain ⟨v,w3,h5,h6⟩ := (show Rows P row args w' _ from h2) c cs
   exact ⟨v,w3,h5,stepsIn_wide.2 h6⟩
  | _ => exact h2.elim
 | halt e w' => cases e <;> simp only [Oper.upon] at h2 <;> exact h2.elim
structure Inv (F : Fx) (nt : Nat) (x : St) (μ : Mem) (ρ : Nms) (a : Act) (w : World) : Prop where
 size : a.tmps.size = nt
 defers : a.defers = F.D
 env : EnvOk ρ μ x.σ a.tmps
 agr : Agr μ w
 heap : HeapOk ρ μ w x.H
 nms : ∀ i,ρ i ≠ none → i < x.fr
 os : w.os = F.w0.os
 tape : w.tape = F.w0.tape
 output : w.output = F.w0.output
 hsize : F.w0.heap.size ≤ w.heap.size
 block : ∀ k,k < F.w0.heap.size → ¬ F.G k → w.heap[k]? = F.w0.heap[k]?
 le : Mem.le F.μ0 μ
 new : ∀ b,μ b ≠ none → F.μ0 b ≠ none ∨ F.w0.heap.size ≤ b ∨ F.G b
 own : ∀ e ∈ x.H,∀ g,eb ρ e g → F.G g ∨ F.w0.heap.size ≤ g
theorem put_size (a : Act) (d : Option Tmp) (v : Value) : (a.put d v).tmps.size = a.tmps.size := by cases d <;> simp [Act.put]
theorem jb (a : Act) (d : Option Tmp) (v : Value) : (a.put d v).defers = a.defers := by cases d <;> rfl
section
variable {C : Cfg} {F : Fx} {nt : Nat} {x y : St} {μ μ' : Mem} {ρ ρ' : Nms} {a : Act} {w w' : World}
theorem Inv.stp (h : Inv F nt x μ ρ a w) (hs : Stp μ w μ' w') : Inv F nt x μ' ρ a w' :=
 ⟨h.size,h.defers,h.env.mono (Nms.le.refl _) hs.le,hs.agr,h.heap.stp hs,h.nms,hs.below.os.trans h.os,hs.below.tape.trans h.tape,hs.below.output.trans h.output,
  Nat.le_trans h.hsize hs.below.size,fun k hk hg => (hs.below.block k (Nat.lt_of_lt_of_le hk h.hsize)).trans (h.block k hk hg),h.le.trans hs.le,
  fun b hb => (hs.new b hb).elim (h.new b) (fun hle => .inr (.inl (Nat.le_trans h.hsize hle))),h.own⟩
theorem Inv.bnd (h : Inv F nt x μ ρ a w) {d : Option Tmp} {s : SV} {v : Value} (hd : ∀ t,d = some t → t < nt) (hs : SV.R ρ μ s v) : Inv F nt ⟨Go.Proofs.YtjgmbgfcffnanaaGreatDoor.bnd d s x.σ,x.H,x.fr⟩ μ ρ (a.put d v) w :=
 ⟨(put_size _ _ _).trans h.size,(jb _ _ _).trans h.defers,h.env.bnd (by rw [h.size];exact hd) hs,h.agr,h.heap,h.nms,h.os,h.tape,h.output,h.hsize,h.block,h.le,h.new,h.own⟩
theorem Inv.new1 (h : Inv F nt x μ ρ a w) {v : Value} {ob : HObj} (hs : Stp μ w μ' w') (he : EntOk (upd ρ x.fr v) μ' w' (x.fr,ob)) (hb : ∀ g,blk v = some g → w.heap.size ≤ g) : Inv F nt ⟨x.σ,(x.fr,ob) :: x.H,x.fr + 1⟩ μ' (upd ρ x.fr v) a w' := by
 have h0 : ρ x.fr = none := by
  cases e : ρ x.fr with
  | none => rfl
  | some u => exact absurd (h.nms x.fr (by rw [e];simp)) (Nat.lt_irrefl _)
 have h2 := h.stp hs
 have hle := vv (v := v) h0
 have heb : ∀ g,eb (upd ρ x.fr v) (x.fr,ob) g → blk v = some g := fun g ⟨j,hj,hg⟩ => by
  cases j with
  | zero => simp only [Nat.add_zero,oY,Option.bind_some] at hg;exact hg
  | succ j =>
   have h3 := he.names (j + 1) hj
   unfold upd at h3
   rw [if_neg (by simp only;omega)] at h3
   exact absurd (h.nms _ h3) (by simp only;omega)
 have hold : ∀ e ∈ x.H,eb (upd ρ x.fr v) e = eb ρ e := fun e he => eb_le hle (h.heap.1 e he).named
 have hH := h2.heap.keep hle (Mem.le.refl _) (fun e he g hg => ⟨rfl,((h2.heap.1 e he).lt hg).2⟩)
 refine ⟨h2.size,h2.defers,h2.env.mono hle (Mem.le.refl _),h2.agr,⟨?_,?_⟩,?_,h2.os,h2.tape,h2.output,h2.hsize,h2.block,h2.le,h2.new,?_⟩
 ·intro e hm
  rcases List.mem_cons.1 hm with rfl | hm
  ·exact he
  ·exact hH.1 e hm
 ·have key : ∀ e ∈ x.H,∀ g,blk v = some g → ¬ eb (upd ρ x.fr v) e g := fun e hm g hg hg2 => by
   have h3 := hb g hg
   rw [hold e hm] at hg2
   have h4 := ((h.heap.1 e hm).lt hg2).1
   omega
  intro e hm e' hm' hne g hg hg2
  rcases List.mem_cons.1 hm with rfl | hm
  ·rcases List.mem_cons.1 hm' with rfl | hm'
   ·exact hne rfl
   ·exact key e' hm' g (heb g hg) hg2
  ·rcases List.mem_cons.1 hm' with rfl | hm'
   ·exact key e hm g (heb g hg2) hg
   ·exact hH.2 e hm e' hm' hne g hg hg2
 ·intro i hi
  show i < x.fr + 1
  unfold upd at hi
  by_cases e : i = x.fr
  ·omega
  ·rw [if_neg e] at hi;have := h.nms i hi;omega
 ·intro e hm g hg
  rcases List.mem_cons.1 hm with rfl | hm
  ·exact .inr (Nat.le_trans h.hsize (hb g (heb g hg)))
  ·rw [hold e hm] at hg;exact h.own e hm g hg
theorem Inv.estp (h : Inv F nt x μ ρ a w) {H' : List Ent} {fr' : Nat} (hf : x.fr ≤ fr') (hH : HeapOk ρ' μ' w' H') (hr : Nms.le ρ ρ') (hn : ∀ i,ρ' i ≠ none → ρ i ≠ none ∨ (x.fr ≤ i ∧ i < fr')) (hs : EStp ρ x.H μ w ρ' H' μ' w') : Inv F nt ⟨x.σ,H',fr'⟩ μ' ρ' a w' := by
 refine ⟨h.size,h.defers,h.env.mono hr hs.le,hs.agr,hH,?_,hs.os.trans h.os,hs.tape.trans h.tape,hs.output.trans h.output,Nat.le_trans h.hsize hs.size,?_,h.le.trans hs.le,?_,?_⟩
 ·intro i hi
  show i < fr'
  rcases hn i hi with h1 | h1
  ·have := h.nms i h1;omega
  ·exact h1.2
 ·intro k hk hg
  refine (hs.block k (Nat.lt_of_lt_of_le hk h.hsize) fun e he hee => ?_).trans (h.block k hk hg)
  rcases h.own e he k hee with h1 | h1
  ·exact hg h1
  ·omega
 ·intro b hb
  rcases hs.new b hb with h1 | h1 | ⟨e,he,h1⟩
  ·exact h.new b h1
  ·exact .inr (.inl (Nat.le_trans h.hsize h1))
  ·exact .inr ((h.own e he b h1).symm)
 ·intro e he g hg
  rcases hs.own e he g hg with ⟨e0,h0,h1⟩ | h1
  ·exact h.own e0 h0 g h1
  ·exact .inr (Nat.le_trans h.hsize h1)
theorem qh {ops : Array Oper} {j d : Nat} (hj : (ops[j]?).bind (·.dst) = some d) : yielded ops a.tmps j = yv (a.tmps.getD d undef) := by
 unfold yielded
 rw [hj,Option.bind_some,Array.getD_eq_getD_getElem?]
 cases h : a.tmps[d]? with
 | none => rfl
 | some v => cases v <;> rfl
def Next1 (C : Cfg) (ops : Array Oper) (o : Oper) (a : Act) (w : World) (K : Act → World → Prop) : Prop :=
 if Region.wanted o (yielded ops a.tmps) then o.wp C.P a w K NoExit else K (a.put o.dst undef) w
theorem Yes.wanted {ops : Array Oper} {o : Oper} (h : Yes ops o x.σ) (hl : ∀ j d b s0,o.guard = some (j,b) → (ops[j]?).bind (·.dst) = some d → lk x.σ d = some s0 → SV.R ρ μ s0 (a.tmps.getD d undef)) : Region.wanted o (yielded ops a.tmps) = true := by
 rcases h with hg | ⟨j,d,b,s0,hg,hj,hc,hq⟩
 ·simp [Region.wanted,hg]
 ·simp only [Region.wanted,hg]
  rw [qh hj]
  exact hq ρ μ _ (hl j d b s0 hg hj hc)
theorem Step1.sound {ops : Array Oper} {k : Nat} {o : Oper} {s : SV} (h : Step1 C ops nt k o x s y) (hi : Inv F nt x μ ρ a w) : Next1 C ops o a w (fun a' w' => ∃ μ' ρ',Inv F nt y μ' ρ' a' w') := by
 cases h with
 | n hg hd h =>
  unfold Next1
  rw [if_pos (hg.wanted (ρ := ρ) (μ := μ) fun j d b s0 _ _ hc => hi.env d _ hc)]
  refine Oper.wp_mono ?_ (h ρ μ a w (hi.env.look o) hi.agr)
  rintro a' w' ⟨v,μ',rfl,h1,h2⟩
  exact ⟨μ',ρ,(hi.stp h2).bnd (jn hd) h1⟩
 | @g _ _ s s0 j d b q hg hj hc hq hd h =>
  unfold Next1
  have h3 : Region.wanted o (yielded ops a.tmps) = q := by
   simp only [Region.wanted,hg]
   rw [qh hj]
   exact hq ρ μ _ (hi.env d _ hc)
  cases q with
  | true =>
   rw [if_pos h3]
   refine Oper.wp_mono ?_ (h rfl ρ μ a w (hi.env.look o) hi.agr)
   rintro a' w' ⟨v,μ',rfl,h1,h2⟩
   exact ⟨μ',ρ,(hi.stp h2).bnd (jn hd) (by unfold SV.R;exact ⟨fun _ => h1,fun e => (by cases e)⟩)⟩
  | false =>
   rw [if_neg (by rw [h3];simp)]
   exact ⟨μ,ρ,hi.bnd (jn hd) (by unfold SV.R;exact ⟨fun e => (by cases e),fun _ => rfl⟩)⟩
 | r hg hd h =>
  unfold Next1
  rw [if_pos (hg.wanted (ρ := ρ) (μ := μ) fun j d b s0 _ _ hc => hi.env d _ hc)]
  refine Oper.wp_mono ?_ (h ρ μ a w (hi.env.look o) hi.agr hi.heap)
  rintro a' w' ⟨v,μ',rfl,h1,h2⟩
  exact ⟨μ',ρ,(hi.stp h2).bnd (jn hd) h1⟩
 | @rg _ _ s s0 j d b q hg hj hc hq hd h =>
  unfold Next1
  have h3 : Region.wanted o (yielded ops a.tmps) = q := by
   simp only [Region.wanted,hg]
   rw [qh hj]
   exact hq ρ μ _ (hi.env d _ hc)
  cases q with
  | true =>
   rw [if_pos h3]
   refine Oper.wp_mono ?_ (h rfl ρ μ a w (hi.env.look o) hi.agr hi.heap)
   rintro a' w' ⟨v,μ',rfl,h1,h2⟩
   exact ⟨μ',ρ,(hi.stp h2).bnd (jn hd) (by unfold SV.R;exact ⟨fun _ => h1,fun e => (by cases e)⟩)⟩
  | false =>
   rw [if_neg (by rw [h3];simp)]
   exact ⟨μ,ρ,hi.bnd (jn hd) (by unfold SV.R;exact ⟨fun e => (by cases e),fun _ => rfl⟩)⟩
 | a hg hd h =>
  unfold Next1
  rw [if_pos (hg.wanted (ρ := ρ) (μ := μ) fun j d b s0 _ _ hc => hi.env d _ hc)]
  have h0 : ρ x.fr = none := by
   cases e : ρ x.fr with
   | none => rfl
   | some u => exact absurd (hi.nms x.fr (by rw [e];simp)) (Nat.lt_irrefl _)
  refine Oper.wp_mono ?_ (h.2 ρ μ a w (hi.env.look o) hi.agr h0)
  rintro a' w' ⟨v,μ',rfl,h1,h2,h3,h4⟩
  exact ⟨μ',_,(hi.new1 h4 h2 h3).bnd (jn hd) h1⟩
 | e hg hd hf h =>
  unfold Next1
  rw [if_pos (hg.wanted (ρ := ρ) (μ := μ) fun j d b s0 _ _ hc => hi.env d _ hc)]
  have h5 := h ρ μ a w (hi.env.look o) hi.agr hi.heap (fun i h1 h2 => by
   cases e : ρ i with
   | none => rfl
   | some u => have := hi.nms i (by rw [e];simp);omega)
  refine Oper.wp_mono ?_ h5
  rintro a' w' ⟨v,μ',ρ',rfl,h1,h2,h3,h4,h6⟩
  exact ⟨μ',ρ',(hi.estp hf h2 h3 h4 h6).bnd (jn hd) h1⟩
theorem AL.sound {ops : Array Oper} {Q : Exit → Act → World → Prop} {n : Nat} : ∀ {ks : List Nat} {l : List Oper} {x y : St} {ss : List SV},AL C ops nt ks l x ss y → ∀ {μ ρ a w},Inv F nt x μ ρ a w →
 (∀ μ' ρ' a' w',Inv F nt y μ' ρ' a' w' → Q .normal a' w') → wpListIn F.fen n C.P ops Q l a w := by
 intro ks l x y ss h
 induction h with
 | nil => intro μ ρ a w hi hq;exact hq _ _ _ _ hi
 | @cons k o x y z s ks l ss h t ih =>
  intro μ ρ a w hi hq
  have h1 := Step1.sound h hi
  unfold Next1 at h1
  unfold wpListIn
  split
  ·rename_i hw
   rw [if_pos hw] at h1
   exact jG (fun a' w' ⟨_,_,h3⟩ => h3.defers.trans hi.defers.symm) (fun a' w' ⟨μ',ρ',h2⟩ => ih h2 hq) h1
  ·rename_i hw
   rw [if_neg hw] at h1
   obtain ⟨μ',ρ',h2⟩ := h1
   exact ⟨fun _ _ => trivial,ih h2 hq⟩
end
def WP (C : Cfg) (F : Fx) (nt : Nat) (c : Code) (Q : Exit → St → Prop) (x : St) : Prop :=
 ∀ μ ρ a w,Inv F nt x μ ρ a w → c.wpIn F.fen 9 C.P (fun e a' w' => ∃ y μ' ρ',Q e y ∧ Inv F nt y μ' ρ' a' w') a w
def Shift (F : Fx) (nt : Nat) (x y : St) : Prop := ∀ μ ρ a w,Inv F nt x μ ρ a w → ∃ μ' ρ',Inv F nt y μ' ρ' a w
theorem Shift.refl {F : Fx} {nt : Nat} {x : St} : Shift F nt x x := fun μ ρ _ _ h => ⟨μ,ρ,h⟩
theorem Shift.trans {F : Fx} {nt : Nat} {x y z : St} (h : Shift F nt x y) (k : Shift F nt y z) : Shift F nt x z := fun μ ρ a w hi => by
 obtain ⟨μ',ρ',h1⟩ := h μ ρ a w hi
 exact k μ' ρ' a w h1
def XThen (K : St → Prop) (Q : Exit → St → Prop) : Exit → St → Prop
 | .normal,x => K x
 | e,x => Q e x
def XBlock (id : Nat) (Q : Exit → St → Prop) : Exit → St → Prop
 | .exit id',x => match Nat.beq id' id with
  | true => Q .normal x
  | false => Q (.exit id') x
 | e,x => Q e x
section
variable {C : Cfg} {F : Fx} {nt : Nat} {x y : St} {Q : Exit → St → Prop}
theorem WP.shift {c : Code} (h : Shift F nt x y) (k : WP C F nt c Q y) : WP C F nt c Q x := fun μ ρ a w hi => by
 obtain ⟨μ',ρ',h1⟩ := h μ ρ a w hi
 exact k μ' ρ' a w h1
theorem WP.skip (h : Q .normal x) : WP C F nt .skip Q x := fun μ ρ _ _ hi => wpIn_skip ⟨x,μ,ρ,h,hi⟩
theorem WP.exit {id : Nat} (h : Q (.exit id) x) : WP C F nt (.exit id) Q x := fun μ ρ _ _ hi => wpIn_exit ⟨x,μ,ρ,h,hi⟩
theorem WP.ret (h : Q .ret x) : WP C F nt .ret Q x := fun μ ρ _ _ hi => wpIn_ret ⟨x,μ,ρ,h,hi⟩
theorem WP.seq {c d : Code} (h : WP C F nt c (XThen (WP C F nt d Q) Q) x) : WP C F nt (.seq c d) Q x := fun μ ρ a w hi => wpIn_seq (wpIn_mono (h μ ρ a w hi) fun e a' w' ⟨y,μ',ρ',hq,hy⟩ => by
 cases e <;> first | exact hq _ _ _ _ hy | exact ⟨y,μ',ρ',hq,hy⟩)
theorem WP.block {id : Nat} {c : Code} (h : WP C F nt c (XBlock id Q) x) : WP C F nt (.block id c) Q x := fun μ ρ a w hi => wpIn_block (wpIn_mono (h μ ρ a w hi) fun e a' w' ⟨y,μ',ρ',hq,hy⟩ => by
 cases e with
 | exit id' =>
  simp only [XBlock] at hq
  simp only [Exit.inBlock]
  cases hb : Nat.beq id' id with
  | true => rw [hb] at hq;rw [if_pos (Nat.eq_of_beq_eq_true hb)];exact ⟨y,μ',ρ',hq,hy⟩
  | false => rw [hb] at hq;rw [if_neg (Nat.ne_of_beq_eq_false hb)];exact ⟨y,μ',ρ',hq,hy⟩
 | _ => exact ⟨y,μ',ρ',hq,hy⟩)
theorem WP.cond {t : Nat} {c d : Code} {b : Bool} (hb : lk x.σ t = some (.im (IV.bool b))) (h1 : b = true → WP C F nt c Q x) (h2 : b = false → WP C F nt d Q x) : WP C F nt (.cond (.tmp t) c d) Q x := fun μ ρ a w hi => by
 have h3 := hi.env t _ hb
 unfold SV.R at h3
 exact wpIn_cond_split (t := b) h3 (fun e => h1 e μ ρ a w hi) (fun e => h2 e μ ρ a w hi)
theorem WP.loop {c : Code} {ι : Type} (I : ι → St) (Pr : ι → Prop) (m : ι → Nat) (i0 : ι) (hp : Pr i0) (h0 : Shift F nt x (I i0))
 (h : ∀ i,Pr i → WP C F nt c (XThen (fun y => ∃ j,Pr j ∧ m j < m i ∧ Shift F nt y (I j)) Q) (I i)) : WP C F nt (.loop c) Q x := by
 intro μ ρ a w hi
 obtain ⟨μ',ρ',h1⟩ := h0 μ ρ a w hi
 clear hi h0
 have key : ∀ n i,m i < n → Pr i → ∀ μ ρ a w,Inv F nt (I i) μ ρ a w → Code.roundsIn F.fen 9 C.P c (fun e a' w' => ∃ y μ' ρ',Q e y ∧ Inv F nt y μ' ρ' a' w') n a w := by
  intro n
  induction n with
  | zero => intro i hm;omega
  | succ n ih =>
   intro i hm hpi μ ρ a w hi
   rw [roundsIn_succ]
   refine wpIn_mono (h i hpi μ ρ a w hi) ?_
   rintro e a' w' ⟨y,μ',ρ',hq,hy⟩
   cases e with
   | normal =>
    obtain ⟨j,hj,hlt,hs⟩ := hq
    obtain ⟨μ2,ρ2,h2⟩ := hs _ _ _ _ hy
    exact ih j (by omega) hj _ _ _ _ h2
   | _ => exact ⟨y,μ',ρ',hq,hy⟩
 exact wpIn_loop_rounds _ (key (m i0 + 1) i0 (Nat.lt_succ_self _) hp _ _ _ _ h1)
end
def depMask (o : Oper) (ms : List Nat) : Nat := o.after.toList.foldl (fun m e => match Region.binds .any e with
 | true => Nat.lor m (Nat.lor (Nat.shiftLeft 1 e.on) (ms.getD e.on 0))
 | false => m) 0
def masks : List Oper → List Nat → List Nat
 | [],acc => acc
 | o :: l,acc => masks l (acc ++ [depMask o acc])
def looksG (l : List Oper) (o : Oper) : List Tmp := match o.guard with
 | some (j,_) => match (l[j]?).bind (·.dst) with
  | some d => d :: looks o
  | none => looks o
 | none => looks o
def allIdx {α : Type} (p : Nat → α → Bool) : Nat → List α → Bool
 | _,[] => true
 | i,x :: l => p i x && allIdx p (i + 1) l
theorem yZ {α : Type} {p : Nat → α → Bool} : ∀ {l : List α} {i0 : Nat},allIdx p i0 l = true → ∀ {i : Nat} {x : α},l[i]? = some x → p (i0 + i) x = true
 | [],_,_,i,x,h => by simp at h
 | y :: l,i0,ha,0,x,h => by simp at h;subst h;simp only [allIdx,Bool.and_eq_true] at ha;exact ha.1
 | y :: l,i0,ha,i + 1,x,h => by
  simp only [allIdx,Bool.and_eq_true] at ha
  have := yZ ha.2 (i := i) (x := x) (by simpa using h)
  rw [show i0 + (i + 1) = i0 + 1 + i by omega];exact this
def optEq (a : Option Nat) (d : Nat) : Bool := match a with
 | some x => Nat.beq x d
 | none => false
theorem optEq_iff {a : Option Nat} {d : Nat} : optEq a d = true ↔ a = some d := by
 cases a with
 | none => simp [optEq]
 | some x => simp only [optEq,Option.some.injEq];exact ⟨Nat.eq_of_beq_eq_true,fun h => by subst h;exact Nat.beq_refl x⟩
def regOk (l : List Oper) (ks : List Nat) : Bool :=
 let ms := masks l []
 allIdx (fun i o =>
  let m := ms.getD i 0
  Nat.beq m (depMask o ms) && o.after.toList.all (fun e => !Region.binds .any e || Nat.blt e.on i) &&
  (match o.dst with
   | some d => allIdx (fun j o' => Nat.beq i j || !optEq o'.dst d) 0 l
   | none => true) &&
  (looksG l o).all (fun d => allIdx (fun j o' => !optEq o'.dst d || (Nat.blt j i && Nat.testBit m j) || (Nat.blt i j && Nat.testBit (ms.getD j 0) i)) 0 l) &&
  (match Nat.beq (ks.getD i 0) 2 with
   | true => allIdx (fun j k => Nat.beq k 0 || Nat.ble i j || Nat.testBit m j) 0 ks
   | false => true) &&
  (match Nat.beq (ks.getD i 0) 1 with
   | true => allIdx (fun j k => !Nat.beq k 2 || Nat.ble i j) 0 ks
   | false => true) &&
  (match Nat.beq (ks.getD i 0) 3 with
   | true => allIdx (fun j k => Nat.beq k 0 || Nat.beq k 3 || Nat.ble i j || Nat.testBit m j) 0 ks
   | false => true)) 0 l
structure RegP (l : List Oper) (ks ms : List Nat) (i : Nat) (o : Oper) : Prop where
 mask : ms.getD i 0 = depMask o ms
 dep : ∀ e ∈ o.after.toList,Region.binds .any e = true → e.on < i
 uniq : ∀ d j o',o.dst = some d → l[j]? = some o' → o'.dst = some d → i = j
 look : ∀ d ∈ looksG l o,∀ j o',l[j]? = some o' → o'.dst = some d → (j < i ∧ Nat.testBit (ms.getD i 0) j = true) ∨ (i < j ∧ Nat.testBit (ms.getD j 0) i = true)
 chain : ks.getD i 0 = 2 → ∀ j k,ks[j]? = some k → k ≠ 0 → j < i → Nat.testBit (ms.getD i 0) j = true
 late : ks.getD i 0 = 1 → ∀ j,ks[j]? = some 2 → i ≤ j
 reads : ks.getD i 0 = 3 → ∀ j k,ks[j]? = some k → k ≠ 0 → k ≠ 3 → j < i → Nat.testBit (ms.getD i 0) j = true
theorem y2 {l : List Oper} {ks : List Nat} (h : regOk l ks = true) {i : Nat} {o : Oper} (hi : l[i]? = some o) : RegP l ks (masks l []) i o := by
 have h1 := yZ h hi
 rw [Nat.zero_add] at h1
 simp only [Bool.and_eq_true] at h1
 obtain ⟨⟨⟨⟨⟨⟨a1,a0⟩,a2⟩,a3⟩,a4⟩,a5⟩,a6⟩ := h1
 refine ⟨Nat.eq_of_beq_eq_true a1,?_,?_,?_,?_,?_,?_⟩
 ·intro e he hb
  have h2 := List.all_eq_true.1 a0 e he
  rw [hb] at h2
  exact Nat.blt_eq ▸ (by simpa using h2)
 ·intro d j o' hd hj hd'
  rw [hd] at a2
  have := yZ a2 hj
  rw [Nat.zero_add] at this
  rcases Bool.or_eq_true _ _ ▸ this with h2 | h2
  ·exact Nat.eq_of_beq_eq_true h2
  ·rw [optEq_iff.2 hd'] at h2;cases h2
 ·intro d hd j o' hj hd'
  have h2 := yZ (List.all_eq_true.1 a3 d hd) hj
  rw [Nat.zero_add,optEq_iff.2 hd'] at h2
  simp only [Bool.not_true,Bool.false_or,Bool.or_eq_true,Bool.and_eq_true] at h2
  exact h2.imp (fun h => ⟨Nat.blt_eq ▸ h.1,h.2⟩) (fun h => ⟨Nat.blt_eq ▸ h.1,h.2⟩)
 ·intro hk j k hj hk0 hlt
  rw [hk] at a4
  have h2 := yZ (l := ks) a4 hj
  rw [Nat.zero_add] at h2
  simp only [Bool.or_eq_true] at h2
  rcases h2 with (h2 | h2) | h2
  ·exact absurd (Nat.eq_of_beq_eq_true h2) hk0
  ·have := Nat.le_of_ble_eq_true h2;omega
  ·exact h2
 ·intro hk j hj
  rw [hk] at a5
  have h2 := yZ (l := ks) a5 hj
  rw [Nat.zero_add] at h2
  simp only [Bool.or_eq_true,Nat.beq_refl,Bool.not_true] at h2
  rcases h2 with h2 | h2
  ·cases h2
  ·exact Nat.le_of_ble_eq_true h2
 ·intro hk j k hj hk0 hk3 hlt
  rw [hk] at a6
  have h2 := yZ (l := ks) a6 hj
  rw [Nat.zero_add] at h2
  simp only [Bool.or_eq_true] at h2
  rcases h2 with ((h2 | h2) | h2) | h2
  ·exact absurd (Nat.eq_of_beq_eq_true h2) hk0
  ·exact absurd (Nat.eq_of_beq_eq_true h2) hk3
  ·have := Nat.le_of_ble_eq_true h2;omega
  ·exact h2
theorem foldl_mask {ms : List Nat} {P : Nat → Prop} (hP : ∀ j,P j → ∀ b,Nat.testBit (ms.getD j 0) b = true → P b) : ∀ (es : List Edge) (m : Nat),(∀ b,Nat.testBit m b = true → P b) → (∀ e ∈ es,Region.binds .any e = true → P e.on) →
 ∀ b,Nat.testBit (es.foldl (fun m e => match Region.binds .any e with
  | true => Nat.lor m (Nat.lor (Nat.shiftLeft 1 e.on) (ms.getD e.on 0))
  | false => m) m) b = true → P b
 | [],m,hm,_,b,hb => hm b hb
 | e :: es,m,hm,he,b,hb => by
  refine foldl_mask hP es _ ?_ (fun e' h' => he e' (List.mem_cons_of_mem _ h')) b hb
  intro b hb
  cases hbe : Region.binds .any e with
  | false => simp only [hbe] at hb;exact hm b hb
  | true =>
   simp only [hbe] at hb
   have h1 := he e List.mem_cons_self hbe
   change Nat.testBit (m ||| ((1 <<< e.on) ||| ms.getD e.on 0)) b = true at hb
   rw [Nat.testBit_or,Nat.testBit_or,Bool.or_eq_true,Bool.or_eq_true] at hb
   rcases hb with hb | hb | hb
   ·exact hm b hb
   ·rw [Nat.one_shiftLeft,Nat.testBit_two_pow] at hb
    have : e.on = b := by simpa using hb
    subst this;exact h1
   ·exact hP _ h1 b hb
theorem jD {ms : List Nat} {P : Nat → Prop} (hP : ∀ j,P j → ∀ b,Nat.testBit (ms.getD j 0) b = true → P b) {o : Oper} (ho : ∀ e ∈ o.after.toList,Region.binds .any e = true → P e.on) : ∀ b,Nat.testBit (depMask o ms) b = true → P b :=
 foldl_mask hP _ 0 (fun b hb => by simp at hb) ho
section
variable {C : Cfg} {ops : Array Oper} {nt : Nat}
def StepAt (C : Cfg) (ops : Array Oper) (nt k : Nat) (o : Oper) (x : St) (s : SV) (ob : HObj) (y : St) : Prop :=
 dok nt o = true ∧ y.σ = bnd o.dst s x.σ ∧
 ((k = 0 ∧ y.H = x.H ∧ y.fr = x.fr ∧ ((Yes ops o x.σ ∧ OpN C o x.σ s) ∨
  ∃ j d b q s0 s',o.guard = some (j,b) ∧ (ops[j]?).bind (·.dst) = some d ∧ lk x.σ d = some s0 ∧ Gq s0 b q ∧ s = .cnd q s' ∧ (q = true → OpN C o x.σ s'))) ∨
  (k = 1 ∧ Yes ops o x.σ ∧ y.H = (x.fr,ob) :: x.H ∧ y.fr = x.fr + 1 ∧ OpA C o x.σ x.fr s ob) ∨
  (k = 2 ∧ Yes ops o x.σ ∧ x.fr ≤ y.fr ∧ OpE C o x.σ x.H x.fr s y.H y.fr) ∨
  (k = 3 ∧ y.H = x.H ∧ y.fr = x.fr ∧ ((Yes ops o x.σ ∧ OpR C o x.σ x.H s) ∨
   ∃ j d b q s0 s',o.guard = some (j,b) ∧ (ops[j]?).bind (·.dst) = some d ∧ lk x.σ d = some s0 ∧ Gq s0 b q ∧ s = .cnd q s' ∧ (q = true → OpR C o x.σ x.H s'))))
theorem Step1.at {k : Nat} {o : Oper} {x y : St} {s : SV} (h : Step1 C ops nt k o x s y) : ∃ ob,StepAt C ops nt k o x s ob y := by
 cases h with
 | n hg hd h => exact ⟨.blk 0 [],hd,rfl,.inl ⟨rfl,rfl,rfl,.inl ⟨hg,h⟩⟩⟩
 | g hg hj hc hq hd h => exact ⟨.blk 0 [],hd,rfl,.inl ⟨rfl,rfl,rfl,.inr ⟨_,_,_,_,_,_,hg,hj,hc,hq,rfl,h⟩⟩⟩
 | a hg hd h => exact ⟨_,hd,rfl,.inr (.inl ⟨rfl,hg,rfl,rfl,h⟩)⟩
 | e hg hd hf h => exact ⟨.blk 0 [],hd,rfl,.inr (.inr (.inl ⟨rfl,hg,hf,h⟩))⟩
 | r hg hd h => exact ⟨.blk 0 [],hd,rfl,.inr (.inr (.inr ⟨rfl,rfl,rfl,.inl ⟨hg,h⟩⟩))⟩
 | rg hg hj hc hq hd h => exact ⟨.blk 0 [],hd,rfl,.inr (.inr (.inr ⟨rfl,rfl,rfl,.inr ⟨_,_,_,_,_,_,hg,hj,hc,hq,rfl,h⟩⟩))⟩
theorem AL.at : ∀ {ks : List Nat} {l : List Oper} {x y : St} {ss : List SV},AL C ops nt ks l x ss y →
 ks.length = l.length ∧ ∃ (f : Nat → St) (sf : Nat → SV) (ob : Nat → HObj),f 0 = x ∧ f l.length = y ∧ ∀ i o,l[i]? = some o → StepAt C ops nt (ks.getD i 0) o (f i) (sf i) (ob i) (f (i + 1)) := by
 intro ks l x y ss h
 induction h with
 | @nil x => exact ⟨rfl,fun _ => x,fun _ => .im IV.any,fun _ => .blk 0 [],rfl,rfl,fun i o hi => by simp at hi⟩
 | @cons k o x y z s ks l ss h t ih =>
  obtain ⟨hl,f,sf,ob,h0,h1,h2⟩ := ih
  obtain ⟨b,hb⟩ := h.at
  refine ⟨by simp [hl],fun n => match n with | 0 => x | n + 1 => f n,fun n => match n with | 0 => s | n + 1 => sf n,fun n => match n with | 0 => b | n + 1 => ob n,rfl,h1,?_⟩
  intro i o' hi
  cases i with
  | zero =>
   simp at hi;subst hi
   show StepAt C ops nt ((k :: ks).getD 0 0) o x s b (f 0)
   rw [h0];simpa using hb
  | succ i => simpa using h2 i o' (by simpa using hi)
end
theorem jV {ops : Array Oper} {listed : Array Bool} {i : Nat} (h : i ∈ Region.ready .any ops listed) : ∃ o,ops[i]? = some o ∧ listed.getD i true = false ∧ ∀ e ∈ o.after.toList,Region.binds .any e = true → listed.getD e.on false = true := by
 unfold Region.ready at h
 rw [List.mem_filter] at h
 obtain ⟨h1,h2⟩ := h
 rw [List.mem_range] at h1
 have ho : ops[i]? = some ops[i] := Array.getElem?_eq_getElem h1
 simp only [Bool.and_eq_true,Bool.not_eq_true',ho,Option.map_some,Option.getD_some] at h2
 refine ⟨_,ho,h2.1,fun e he hb => ?_⟩
 have := h2.2
 rw [← Array.all_toList] at this
 have := List.all_eq_true.1 this e he
 rw [hb] at this
 simpa using this
def Lst (n : Nat) (listed : Array Bool) (i : Nat) : Prop := i < n ∧ listed.getD i false = true
theorem not_ready {l : List Oper} {listed : Array Bool} (hsz : listed.size = l.length) (hr : Region.ready .any l.toArray listed = []) (hdone : ∀ i o,l[i]? = some o → ∀ e ∈ o.after.toList,Region.binds .any e = true → e.on < i) : ∀ i,i < l.length → Lst l.length listed i := by
 intro i
 induction i using Nat.strongRecOn with
 | _ i ih =>
  intro hi
  refine ⟨hi,?_⟩
  cases hb : listed.getD i false with
  | true => rfl
  | false =>
   exfalso
   have ho := List.getElem?_eq_getElem hi
   have hm : i ∈ Region.ready .any l.toArray listed := by
    unfold Region.ready
    rw [List.mem_filter,List.mem_range]
    refine ⟨by simpa using hi,?_⟩
    have h1 : listed.getD i true = false := by
     rw [Array.getD_eq_getD_getElem?,Array.getElem?_eq_getElem (by omega)] at hb ⊢
     simpa using hb
    simp only [Bool.and_eq_true,Bool.not_eq_true',List.getElem?_toArray,ho,Option.map_some,Option.getD_some]
    refine ⟨h1,?_⟩
    rw [← Array.all_toList,List.all_eq_true]
    intro e he
    cases hbe : Region.binds .any e with
    | false => rfl
    | true =>
     have h2 := hdone i _ ho e he hbe
     have := (ih e.on h2 (by omega)).2
     simpa using this
   rw [hr] at hm
   cases hm
section
variable {C : Cfg} {F : Fx} {nt : Nat} {l : List Oper} {ks : List Nat} {f : Nat → St} {sf : Nat → SV} {ob : Nat → HObj}
structure Jn (C : Cfg) (F : Fx) (nt : Nat) (l : List Oper) (ks : List Nat) (f : Nat → St) (sf : Nat → SV) (ob : Nat → HObj) (L : Nat → Prop) (μ : Mem) (ρ : Nms) (H : List Ent) (a : Act) (w : World) : Prop where
 size : a.tmps.size = nt
 defers : a.defers = F.D
 done : ∀ i o d,L i → l[i]? = some o → o.dst = some d → SV.R ρ μ (sf i) (a.tmps.getD d undef)
 rest : ∀ d s,(∀ i o,L i → l[i]? = some o → o.dst ≠ some d) → lk (f 0).σ d = some s → SV.R ρ μ s (a.tmps.getD d undef)
 agr : Agr μ w
 heap : HeapOk ρ μ w H
 hat : (∃ i,L i ∧ ks[i]? = some 2 ∧ (∀ j,L j → ks[j]? = some 2 → j ≤ i) ∧ H = (f (i + 1)).H) ∨ ((∀ i,L i → ks[i]? ≠ some 2) ∧ ∀ e,e ∈ H ↔ e ∈ (f 0).H ∨ ∃ j,L j ∧ ks[j]? = some 1 ∧ e = ((f j).fr,ob j))
 nms : ∀ i,ρ i ≠ none → i < (f 0).fr ∨ ∃ j,L j ∧ (f j).fr ≤ i ∧ i < (f (j + 1)).fr
 inl : ∀ i,L i → i < l.length
 clos : ∀ i,L i → ∀ b,Nat.testBit ((masks l []).getD i 0) b = true → L b
 os : w.os = F.w0.os
 tape : w.tape = F.w0.tape
 output : w.output = F.w0.output
 hsize : F.w0.heap.size ≤ w.heap.size
 block : ∀ k,k < F.w0.heap.size → ¬ F.G k → w.heap[k]? = F.w0.heap[k]?
 le : Mem.le F.μ0 μ
 new : ∀ b,μ b ≠ none → F.μ0 b ≠ none ∨ F.w0.heap.size ≤ b ∨ F.G b
 own : ∀ e ∈ H,∀ g,eb ρ e g → F.G g ∨ F.w0.heap.size ≤ g
variable (hst : ∀ i o,l[i]? = some o → StepAt C l.toArray nt (ks.getD i 0) o (f i) (sf i) (ob i) (f (i + 1))) (hok : regOk l ks = true) (hkl : ks.length = l.length)
include hst
theorem fr_step {i : Nat} (hi : i < l.length) : (f i).fr ≤ (f (i + 1)).fr := by
 obtain ⟨_,_,h⟩ := hst i _ (List.getElem?_eq_getElem hi)
 rcases h with ⟨_,_,h,_⟩ | ⟨_,_,_,h,_⟩ | ⟨_,_,h,_⟩ | ⟨_,_,h,_⟩ <;> omega
theorem qw {i : Nat} : ∀ {j : Nat},i ≤ j → j ≤ l.length → (f i).fr ≤ (f j).fr := by
 intro j
 induction j with
 | zero => intro h _;obtain rfl : i = 0 := by omega
           exact Nat.le_refl _
 | succ j ih =>
  intro h hj
  rcases Nat.lt_or_ge i (j + 1) with h1 | h1
  ·exact Nat.le_trans (ih (by omega) (by omega)) (fr_step hst (by omega))
  ·obtain rfl : i = j + 1 := by omega
   exact Nat.le_refl _
theorem lk_text : ∀ {i : Nat},i ≤ l.length → ∀ {t : Nat} {s : SV},lk (f i).σ t = some s → (∃ j o,j < i ∧ l[j]? = some o ∧ o.dst = some t ∧ s = sf j) ∨ ((∀ j o,j < i → l[j]? = some o → o.dst ≠ some t) ∧ lk (f 0).σ t = some s) := by
 intro i
 induction i with
 | zero => intro _ t s h;exact .inr ⟨fun j o hj => by omega,h⟩
 | succ i ih =>
  intro hi t s h
  have ho := List.getElem?_eq_getElem (show i < l.length by omega)
  obtain ⟨_,hσ,_⟩ := hst i _ ho
  rw [hσ] at h
  have key : lk (f i).σ t = some s → (l[i]'(by omega)).dst ≠ some t → (∃ j o,j < i + 1 ∧ l[j]? = some o ∧ o.dst = some t ∧ s = sf j) ∨ ((∀ j o,j < i + 1 → l[j]? = some o → o.dst ≠ some t) ∧ lk (f 0).σ t = some s) := fun h hne => by
   rcases ih (by omega) h with ⟨j,o,h1,h2,h3,h4⟩ | ⟨h1,h2⟩
   ·exact .inl ⟨j,o,by omega,h2,h3,h4⟩
   ·refine .inr ⟨fun j o hj hjo => ?_,h2⟩
    rcases Nat.lt_or_ge j i with h5 | h5
    ·exact h1 j o h5 hjo
    ·obtain rfl : j = i := by omega
     rw [ho] at hjo;injection hjo with hjo;subst hjo;exact hne
  cases hd : (l[i]'(by omega)).dst with
  | none => rw [hd] at h;exact key h (by rw [hd];simp)
  | some d =>
   rw [hd] at h
   simp only [bnd,lk] at h
   cases hb : Nat.beq d t with
   | true =>
    rw [hb] at h
    injection h with h
    have := Nat.eq_of_beq_eq_true hb
    subst this
    exact .inl ⟨i,_,by omega,ho,hd,h.symm⟩
   | false =>
    rw [hb] at h
    exact key h (by rw [hd];simp;exact Nat.ne_of_beq_eq_false hb)
theorem uW {i : Nat} : ∀ {j : Nat},i ≤ j → j ≤ l.length → (∀ k,i ≤ k → k < j → ks[k]? ≠ some 2) → ks.length = l.length → ∀ e,e ∈ (f j).H ↔ e ∈ (f i).H ∨ ∃ k,i ≤ k ∧ k < j ∧ ks[k]? = some 1 ∧ e = ((f k).fr,ob k) := by
 intro j
 induction j with
 | zero => intro h _ _ _ e;obtain rfl : i = 0 := by omega
           exact ⟨.inl,fun h => h.elim id (fun ⟨k,h1,h2,_⟩ => by omega)⟩
 | succ j ih =>
  intro h hj hn hkl e
  rcases Nat.lt_or_ge i (j + 1) with h1 | h1
  ·have ho := List.getElem?_eq_getElem (show j < l.length by omega)
   have hkj : ks[j]? = some (ks.getD j 0) := by rw [List.getD_eq_getElem?_getD,List.getElem?_eq_getElem (by omega)];rfl
   obtain ⟨_,_,h2⟩ := hst j _ ho
   have ih' := ih (by omega) (by omega) (fun k h3 h4 => hn k h3 (by omega)) hkl e
   rcases h2 with ⟨hk,hH,_,_⟩ | ⟨hk,_,hH,_,_⟩ | ⟨hk,_⟩ | ⟨hk,hH,_,_⟩
   ·rw [hH,ih']
    rw [hk] at hkj
    constructor
    ·rintro (h3 | ⟨k,h3,h4,h5⟩)
     ·exact .inl h3
     ·exact .inr ⟨k,h3,by omega,h5⟩
    ·rintro (h3 | ⟨k,h3,h4,h5⟩)
     ·exact .inl h3
     ·refine .inr ⟨k,h3,?_,h5⟩
      rcases Nat.lt_or_ge k j with h6 | h6
      ·exact h6
      ·obtain rfl : k = j := by omega
       rw [hkj] at h5;cases h5.1
   ·rw [hH,List.mem_cons,ih']
    rw [hk] at hkj
    constructor
    ·rintro (h3 | h3 | ⟨k,h3,h4,h5⟩)
     ·exact .inr ⟨j,by omega,by omega,hkj,h3⟩
     ·exact .inl h3
     ·exact .inr ⟨k,h3,by omega,h5⟩
    ·rintro (h3 | ⟨k,h3,h4,h5⟩)
     ·exact .inr (.inl h3)
     ·rcases Nat.lt_or_ge k j with h6 | h6
      ·exact .inr (.inr ⟨k,h3,h6,h5⟩)
      ·obtain rfl : k = j := by omega
       exact .inl h5.2
   ·rw [hk] at hkj
    exact absurd hkj (hn j (by omega) (by omega))
   ·rw [hH,ih']
    rw [hk] at hkj
    constructor
    ·rintro (h3 | ⟨k,h3,h4,h5⟩)
     ·exact .inl h3
     ·exact .inr ⟨k,h3,by omega,h5⟩
    ·rintro (h3 | ⟨k,h3,h4,h5⟩)
     ·exact .inl h3
     ·refine .inr ⟨k,h3,?_,h5⟩
      rcases Nat.lt_or_ge k j with h6 | h6
      ·exact h6
      ·obtain rfl : k = j := by omega
       rw [hkj] at h5;cases h5.1
  ·obtain rfl : i = j + 1 := by omega
   exact ⟨.inl,fun h => h.elim id (fun ⟨k,h1,h2,_⟩ => by omega)⟩
include hok hkl
set_option linter.unusedSectionVars false in
theorem Jn.look {L : Nat → Prop} {μ : Mem} {ρ : Nms} {H : List Ent} {a : Act} {w : World} (h : Jn C F nt l ks f sf ob L μ ρ H a w) {i : Nat} {o : Oper} (hi : l[i]? = some o) (hL : ¬ L i) (hm : ∀ b,Nat.testBit ((masks l []).getD i 0) b = true → L b)
 {t : Nat} (ht : t ∈ looksG l o) {s : SV} (hs : lk (f i).σ t = some s) : SV.R ρ μ s (a.tmps.getD t undef) := by
 have hlt : i < l.length := (List.getElem?_eq_some_iff.1 hi).1
 have hr := y2 hok hi
 rcases lk_text hst (Nat.le_of_lt hlt) hs with ⟨j,o',h1,h2,h3,rfl⟩ | ⟨h1,h2⟩
 ·rcases hr.look t ht j o' h2 h3 with h4 | h4
  ·exact h.done j o' t (hm j h4.2) h2 h3
  ·omega
 ·refine h.rest t s (fun j o' hj h4 h5 => ?_) h2
  rcases hr.look t ht j o' h4 h5 with h6 | h6
  ·exact h1 j o' h6.1 h4 h5
  ·exact hL (h.clos j hj i h6.2)
theorem Jn.step {L : Nat → Prop} {μ : Mem} {ρ : Nms} {H : List Ent} {a : Act} {w : World} (h : Jn C F nt l ks f sf ob L μ ρ H a w) {i : Nat} {o : Oper} (hi : l[i]? = some o) (hL : ¬ L i) (hdep : ∀ e ∈ o.after.toList,Region.binds .any e = true → L e.on) :
 Next1 C l.toArray o a w (fun a' w' => ∃ μ' ρ' H',Jn C F nt l ks f sf ob (fun j => L j ∨ j = i) μ' ρ' H' a' w') := by
 have hlt : i < l.length := (List.getElem?_eq_some_iff.1 hi).1
 have hr := y2 hok hi
 have hm : ∀ b,Nat.testBit ((masks l []).getD i 0) b = true → L b := by rw [hr.mask];exact jD h.clos hdep
 obtain ⟨hd,_,hk⟩ := hst i o hi
 have hki : ks[i]? = some (ks.getD i 0) := by rw [List.getD_eq_getElem?_getD,List.getElem?_eq_getElem (by omega)];rfl
 have hlook : LookOk ρ μ (f i).σ o a := fun t ht s hs => h.look hst hok hkl hi hL hm (by unfold looksG;split <;> (try split) <;> simp_all) hs
 /- what stays of the slots -/
 have hslots : ∀ {ρ' : Nms} {μ' : Mem} {v : Value},Nms.le ρ ρ' → Mem.le μ μ' → SV.R ρ' μ' (sf i) v →
  (∀ j o' d,(L j ∨ j = i) → l[j]? = some o' → o'.dst = some d → SV.R ρ' μ' (sf j) ((a.put o.dst v).tmps.getD d undef)) ∧
  (∀ d s,(∀ j o',(L j ∨ j = i) → l[j]? = some o' → o'.dst ≠ some d) → lk (f 0).σ d = some s → SV.R ρ' μ' s ((a.put o.dst v).tmps.getD d undef)) := by
  intro ρ' μ' v hr' hm' hv
  have hget : ∀ d,(a.put o.dst v).tmps.getD d undef = if o.dst = some d then v else a.tmps.getD d undef := by
   intro d
   cases hd0 : o.dst with
   | none => simp [Act.put]
   | some d0 =>
    show (a.tmps.setIfInBounds d0 v).getD d undef = _
    rw [getD_set _ _ _ _ _ (by rw [h.size];exact jn hd d0 hd0)]
    by_cases e : d0 = d <;> simp [e]
  refine ⟨fun j o' d hj hjo hjd => ?_,fun d s hno hs => ?_⟩
  ·rw [hget]
   by_cases e : o.dst = some d
   ·have := hr.uniq d j o' e hjo hjd
    subst this
    rw [if_pos e];exact hv
   ·rw [if_neg e]
    rcases hj with hj | rfl
    ·exact (h.done j o' d hj hjo hjd).mono hr' hm'
    ·rw [hi] at hjo;injection hjo with hjo;subst hjo;exact absurd hjd e
  ·rw [hget,if_neg (hno i o (.inr rfl) hi)]
   exact (h.rest d s (fun j o' hj => hno j o' (.inl hj)) hs).mono hr' hm'
 have hinl : ∀ j,(L j ∨ j = i) → j < l.length := fun j hj => hj.elim (h.inl j) (fun e => e ▸ hlt)
 have hclos : ∀ j,(L j ∨ j = i) → ∀ b,Nat.testBit ((masks l []).getD j 0) b = true → (L b ∨ b = i) := fun j hj b hb => hj.elim (fun hj => .inl (h.clos j hj b hb)) (fun e => .inl (hm b (e ▸ hb)))
 have hnms : ∀ j,ρ j ≠ none → j < (f 0).fr ∨ ∃ k,(L k ∨ k = i) ∧ (f k).fr ≤ j ∧ j < (f (k + 1)).fr := fun j hj => (h.nms j hj).imp id (fun ⟨k,h1,h2⟩ => ⟨k,.inl h1,h2⟩)
 /- a step of kind 0 -/
 have pure : ks.getD i 0 ≠ 1 ∧ ks.getD i 0 ≠ 2 → ∀ {μ' : Mem} {v : Value} {w' : World},SV.R ρ μ' (sf i) v → Stp μ w μ' w' → Jn C F nt l ks f sf ob (fun j => L j ∨ j = i) μ' ρ H (a.put o.dst v) w' := by
  rintro ⟨hk1,hk2⟩ μ' v w' hv hs
  obtain ⟨s1,s2⟩ := hslots (Nms.le.refl _) hs.le hv
  refine ⟨(put_size _ _ _).trans h.size,(jb _ _ _).trans h.defers,s1,s2,hs.agr,h.heap.stp hs,?_,hnms,hinl,hclos,hs.below.os.trans h.os,hs.below.tape.trans h.tape,hs.below.output.trans h.output,
   Nat.le_trans h.hsize hs.below.size,fun k hk hg => (hs.below.block k (Nat.lt_of_lt_of_le hk h.hsize)).trans (h.block k hk hg),h.le.trans hs.le,
   fun b hb => (hs.new b hb).elim (h.new b) (fun hle => .inr (.inl (Nat.le_trans h.hsize hle))),h.own⟩
  rcases h.hat with ⟨q,h1,h2,h3,h4⟩ | ⟨h1,h2⟩
  ·refine .inl ⟨q,.inl h1,h2,fun j hj hj2 => ?_,h4⟩
   rcases hj with hj | rfl
   ·exact h3 j hj hj2
   ·rw [hki] at hj2;injection hj2 with hj2;exact absurd hj2 hk2
  ·refine .inr ⟨fun j hj => ?_,fun e => (h2 e).trans ⟨fun h5 => h5.imp id (fun ⟨j,h6,h7⟩ => ⟨j,.inl h6,h7⟩),fun h5 => h5.imp id (fun ⟨j,h6,h7⟩ => ?_)⟩⟩
   ·rcases hj with hj | rfl
    ·exact h1 j hj
    ·rw [hki];intro e;injection e with e;exact absurd e hk2
   ·rcases h6 with h6 | rfl
    ·exact ⟨j,h6,h7⟩
    ·rw [hki] at h7;injection h7.1 with e;exact absurd e hk1
 have hyes : Yes l.toArray o (f i).σ → Region.wanted o (yielded l.toArray a.tmps) = true := fun hg => hg.wanted (x := f i) (ρ := ρ) (μ := μ) fun j d b s0 hg hj hc => h.look hst hok hkl hi hL hm (t := d) (by
  unfold looksG;simp only [hg]
  have : (l[j]?).bind (·.dst) = some d := by simpa using hj
  rw [this];simp) hc
 unfold Next1
 rcases hk with ⟨hk0,_,_,hg | hg⟩ | ⟨hk1,hg,hH,hfr,hA⟩ | ⟨hk2,hg,hfr,hE⟩ | ⟨hk3,_,_,hg⟩
 ·obtain ⟨hg,hN⟩ := hg
  rw [if_pos (hyes hg)]
  refine Oper.wp_mono ?_ (hN ρ μ a w hlook h.agr)
  rintro a' w' ⟨v,μ',rfl,h1,h2⟩
  exact ⟨μ',ρ,H,pure ⟨by rw [hk0];simp,by rw [hk0];simp⟩ h1 h2⟩
 ·obtain ⟨j,d,b,q,s0,s',hg,hj,hc,hq,hse,hN⟩ := hg
  have h1 : SV.R ρ μ s0 (a.tmps.getD d undef) := h.look hst hok hkl hi hL hm (t := d) (by
   unfold looksG;simp only [hg]
   have : (l[j]?).bind (·.dst) = some d := by simpa using hj
   rw [this];simp) hc
  have h3 : Region.wanted o (yielded l.toArray a.tmps) = q := by
   simp only [Region.wanted,hg]
   rw [qh hj]
   exact hq ρ μ _ h1
  cases q with
  | true =>
   rw [if_pos h3]
   refine Oper.wp_mono ?_ (hN rfl ρ μ a w hlook h.agr)
   rintro a' w' ⟨v,μ',rfl,h1,h2⟩
   exact ⟨μ',ρ,H,pure ⟨by rw [hk0];simp,by rw [hk0];simp⟩ (by rw [hse];unfold SV.R;exact ⟨fun _ => h1,fun e => (by cases e)⟩) h2⟩
  | false =>
   rw [if_neg (by rw [h3];simp)]
   exact ⟨μ,ρ,H,pure ⟨by rw [hk0];simp,by rw [hk0];simp⟩ (by rw [hse];unfold SV.R;exact ⟨fun e => (by cases e),fun _ => rfl⟩) (Stp.refl h.agr)⟩
 ·rw [if_pos (hyes hg)]
  have hki1 : ks[i]? = some 1 := by rw [hki,hk1]
  have h0 : ρ (f i).fr = none := by
   cases e : ρ (f i).fr with
   | none => rfl
   | some u =>
    exfalso
    rcases h.nms (f i).fr (by rw [e];simp) with h1 | ⟨j,h1,h2,h3⟩
    ·have := qw hst (Nat.zero_le i) (Nat.le_of_lt hlt);omega
    ·have hj := h.inl j h1
     rcases Nat.lt_trichotomy j i with h4 | h4 | h4
     ·have := qw hst (show j + 1 ≤ i by omega) (Nat.le_of_lt hlt);omega
     ·subst h4;exact hL h1
     ·have := qw hst (show i + 1 ≤ j by omega) (Nat.le_of_lt hj);omega
  refine Oper.wp_mono ?_ (hA.2 ρ μ a w hlook h.agr h0)
  rintro a' w' ⟨v,μ',rfl,h1,h2,h3,hs⟩
  have hle := vv (v := v) h0
  obtain ⟨s1,s2⟩ := hslots hle hs.le h1
  have heb : ∀ g,eb (upd ρ (f i).fr v) ((f i).fr,ob i) g ↔ blk v = some g := fun g => (uq hA.1).trans (by rw [oY];rfl)
  have hold : ∀ e ∈ H,eb (upd ρ (f i).fr v) e = eb ρ e := fun e he => eb_le hle (h.heap.1 e he).named
  have hst' := h.heap.stp hs
  have hH' := hst'.keep hle (Mem.le.refl _) (fun e he g hg => ⟨rfl,((hst'.1 e he).lt hg).2⟩)
  have hat : ((∀ j,(L j ∨ j = i) → ks[j]? ≠ some 2) ∧ ∀ e,e ∈ ((f i).fr,ob i) :: H ↔ e ∈ (f 0).H ∨ ∃ j,(L j ∨ j = i) ∧ ks[j]? = some 1 ∧ e = ((f j).fr,ob j)) := by
   rcases h.hat with ⟨q,h4,h5,_,_⟩ | ⟨h4,h5⟩
   ·have h6 := hr.late hk1 q h5
    exfalso
    rcases Nat.lt_or_eq_of_le h6 with h7 | h7
    ·have hq := h.inl q h4
     have ho := List.getElem?_eq_getElem hq
     have := (y2 hok ho).chain (by rw [List.getD_eq_getElem?_getD,h5];rfl) i 1 hki1 (by omega) h7
     exact hL (h.clos q h4 i this)
    ·subst h7;exact hL h4
   ·refine ⟨fun j hj => ?_,fun e => ?_⟩
    ·rcases hj with hj | rfl
     ·exact h4 j hj
     ·rw [hki1];simp
    ·rw [List.mem_cons,h5]
     constructor
     ·rintro (h6 | h6 | ⟨j,h6,h7,h8⟩)
      ·exact .inr ⟨i,.inr rfl,hki1,h6⟩
      ·exact .inl h6
      ·exact .inr ⟨j,.inl h6,h7,h8⟩
     ·rintro (h6 | ⟨j,h6 | rfl,h7,h8⟩)
      ·exact .inr (.inl h6)
      ·exact .inr (.inr ⟨j,h6,h7,h8⟩)
      ·exact .inl h8
  refine ⟨μ',_,((f i).fr,ob i) :: H,⟨(put_size _ _ _).trans h.size,(jb _ _ _).trans h.defers,s1,s2,hs.agr,⟨?_,?_⟩,.inr hat,?_,hinl,hclos,hs.below.os.trans h.os,hs.below.tape.trans h.tape,hs.below.output.trans h.output,
   Nat.le_trans h.hsize hs.below.size,fun k hk hg => (hs.below.block k (Nat.lt_of_lt_of_le hk h.hsize)).trans (h.block k hk hg),h.le.trans hs.le,
   fun b hb => (hs.new b hb).elim (h.new b) (fun hle => .inr (.inl (Nat.le_trans h.hsize hle))),?_⟩⟩
  ·intro e he
   rcases List.mem_cons.1 he with rfl | he
   ·exact h2
   ·exact hH'.1 e he
  ·have key : ∀ e ∈ H,∀ g,blk v = some g → ¬ eb (upd ρ (f i).fr v) e g := fun e hm g hg hg2 => by
    have h3 := h3 g hg
    rw [hold e hm] at hg2
    have h4 := ((h.heap.1 e hm).lt hg2).1
    omega
   intro e hm e' hm' hne g hg hg2
   rcases List.mem_cons.1 hm with rfl | hm
   ·rcases List.mem_cons.1 hm' with rfl | hm'
    ·exact hne rfl
    ·exact key e' hm' g ((heb g).1 hg) hg2
   ·rcases List.mem_cons.1 hm' with rfl | hm'
    ·exact key e hm g ((heb g).1 hg2) hg
    ·exact hH'.2 e hm e' hm' hne g hg hg2
  ·intro j hj
   unfold upd at hj
   by_cases e : j = (f i).fr
   ·exact .inr ⟨i,.inr rfl,by omega,by omega⟩
   ·rw [if_neg e] at hj;exact hnms j hj
  ·intro e hm g hg
   rcases List.mem_cons.1 hm with rfl | hm
   ·exact .inr (Nat.le_trans h.hsize (h3 g ((heb g).1 hg)))
   ·rw [hold e hm] at hg;exact h.own e hm g hg
 ·rw [if_pos (hyes hg)]
  have hki2 : ks[i]? = some 2 := by rw [hki,hk2]
  /- what is owned is what the text has here -/
  have hHi : ∀ e,e ∈ H ↔ e ∈ (f i).H := by
   have hb4 : ∀ k n,ks[k]? = some n → n ≠ 0 → k < i → L k := fun k n h1 h2 h3 => hm k (hr.chain hk2 k n h1 h2 h3)
   rcases h.hat with ⟨q,h4,h5,h6,h7⟩ | ⟨h4,h5⟩
   ·have hq := h.inl q h4
    have hqi : q < i := by
     rcases Nat.lt_trichotomy q i with h8 | h8 | h8
     ·exact h8
     ·subst h8;exact absurd h4 hL
     ·have ho := List.getElem?_eq_getElem hq
      have := (y2 hok ho).chain (by rw [List.getD_eq_getElem?_getD,h5];rfl) i 2 hki2 (by omega) h8
      exact absurd (h.clos q h4 i this) hL
    intro e
    rw [h7,uW hst (show q + 1 ≤ i by omega) (Nat.le_of_lt hlt) (fun k h8 h9 h10 => by have := h6 k (hb4 k 2 h10 (by omega) h9) h10;omega) hkl e]
    refine ⟨.inl,fun h8 => h8.elim id fun ⟨k,h9,h10,h11,h12⟩ => ?_⟩
    have hk := (List.getElem?_eq_some_iff.1 h11).1
    have ho := List.getElem?_eq_getElem (show k < l.length by omega)
    have := (y2 hok ho).late (by rw [List.getD_eq_getElem?_getD,h11];rfl) q h5
    omega
   ·intro e
    rw [uW hst (Nat.zero_le i) (Nat.le_of_lt hlt) (fun k _ h9 h10 => h4 k (hb4 k 2 h10 (by omega) h9) h10) hkl e,h5]
    constructor
    ·rintro (h6 | ⟨j,h6,h7,h8⟩)
     ·exact .inl h6
     ·refine .inr ⟨j,Nat.zero_le _,?_,h7,h8⟩
      rcases Nat.lt_or_ge j i with h9 | h9
      ·exact h9
      ·have hj := h.inl j h6
       have ho := List.getElem?_eq_getElem hj
       have := (y2 hok ho).late (by rw [List.getD_eq_getElem?_getD,h7];rfl) i hki2
       obtain rfl : j = i := by omega
       exact absurd h6 hL
    ·rintro (h6 | ⟨j,_,h7,h8,h9⟩)
     ·exact .inl h6
     ·exact .inr ⟨j,hb4 j 1 h8 (by omega) h7,h8,h9⟩
  have hnone : ∀ j,(f i).fr ≤ j → j < (f (i + 1)).fr → ρ j = none := fun j h1 h2 => by
   cases e : ρ j with
   | none => rfl
   | some u =>
    exfalso
    rcases h.nms j (by rw [e];simp) with h3 | ⟨k,h3,h4,h5⟩
    ·have := qw hst (Nat.zero_le i) (Nat.le_of_lt hlt);omega
    ·have hk := h.inl k h3
     rcases Nat.lt_trichotomy k i with h6 | h6 | h6
     ·have := qw hst (show k + 1 ≤ i by omega) (Nat.le_of_lt hlt);omega
     ·subst h6;exact hL h3
     ·have := qw hst (show i + 1 ≤ k by omega) (Nat.le_of_lt hk);omega
  refine Oper.wp_mono ?_ (hE ρ μ a w hlook h.agr (h.heap.sub fun e he => (hHi e).2 he) hnone)
  rintro a' w' ⟨v,μ',ρ',rfl,h1,h2,h3,h4,hs⟩
  obtain ⟨s1,s2⟩ := hslots h3 hs.le h1
  refine ⟨μ',ρ',(f (i + 1)).H,⟨(put_size _ _ _).trans h.size,(jb _ _ _).trans h.defers,s1,s2,hs.agr,h2,.inl ⟨i,.inr rfl,hki2,?_,rfl⟩,?_,hinl,hclos,hs.os.trans h.os,hs.tape.trans h.tape,hs.output.trans h.output,
   Nat.le_trans h.hsize hs.size,?_,h.le.trans hs.le,fun b hb => (hs.new b hb).elim (h.new b) (fun hx => .inr (hx.elim (fun hle => .inl (Nat.le_trans h.hsize hle)) (fun ⟨e,he,h1⟩ => (h.own e ((hHi e).2 he) b h1).symm))),?_⟩⟩
  ·intro j hj hj2
   rcases hj with hj | rfl
   ·rcases Nat.lt_or_ge i j with h5 | h5
    ·exfalso
     have hjl := h.inl j hj
     have ho := List.getElem?_eq_getElem hjl
     have := (y2 hok ho).chain (by rw [List.getD_eq_getElem?_getD,hj2];rfl) i 2 hki2 (by omega) h5
     exact hL (h.clos j hj i this)
    ·exact h5
   ·exact Nat.le_refl _
  ·intro j hj
   rcases h4 j hj with h5 | h5
   ·exact hnms j h5
   ·exact .inr ⟨i,.inr rfl,h5⟩
  ·intro k hk hg
   refine (hs.block k (Nat.lt_of_lt_of_le hk h.hsize) fun e he hee => ?_).trans (h.block k hk hg)
   rcases h.own e ((hHi e).2 he) k hee with h1 | h1
   ·exact hg h1
   ·omega
  ·intro e he g hg
   rcases hs.own e he g hg with ⟨e0,h0,h1⟩ | h1
   ·exact h.own e0 ((hHi e0).2 h0) g h1
   ·exact .inr (Nat.le_trans h.hsize h1)
 ·have hki3 : ks[i]? = some 3 := by rw [hki,hk3]
  have hHi : ∀ e,e ∈ (f i).H → e ∈ H := by
   have hb4 : ∀ k n,ks[k]? = some n → n ≠ 0 → n ≠ 3 → k < i → L k := fun k n h1 h2 h3 h4 => hm k (hr.reads hk3 k n h1 h2 h3 h4)
   rcases h.hat with ⟨q,h4,h5,h6,h7⟩ | ⟨h4,h5⟩
   ·have hq := h.inl q h4
    have hqi : q < i := by
     rcases Nat.lt_trichotomy q i with h8 | h8 | h8
     ·exact h8
     ·subst h8;exact absurd h4 hL
     ·have ho := List.getElem?_eq_getElem hq
      have := (y2 hok ho).chain (by rw [List.getD_eq_getElem?_getD,h5];rfl) i 3 hki3 (by omega) h8
      exact absurd (h.clos q h4 i this) hL
    intro e
    rw [h7,uW hst (show q + 1 ≤ i by omega) (Nat.le_of_lt hlt) (fun k h8 h9 h10 => by have := h6 k (hb4 k 2 h10 (by omega) (by omega) h9) h10;omega) hkl e]
    refine fun h8 => h8.elim id fun ⟨k,h9,h10,h11,h12⟩ => ?_
    have hk := (List.getElem?_eq_some_iff.1 h11).1
    have ho := List.getElem?_eq_getElem (show k < l.length by omega)
    have := (y2 hok ho).late (by rw [List.getD_eq_getElem?_getD,h11];rfl) q h5
    omega
   ·intro e
    rw [uW hst (Nat.zero_le i) (Nat.le_of_lt hlt) (fun k _ h9 h10 => h4 k (hb4 k 2 h10 (by omega) (by omega) h9) h10) hkl e,h5]
    rintro (h6 | ⟨j,_,h7,h8,h9⟩)
    ·exact .inl h6
    ·exact .inr ⟨j,hb4 j 1 h8 (by omega) (by omega) h7,h8,h9⟩
  have hheap := h.heap.sub hHi
  have hp : ks.getD i 0 ≠ 1 ∧ ks.getD i 0 ≠ 2 := ⟨by rw [hk3];simp,by rw [hk3];simp⟩
  rcases hg with ⟨hg,hN⟩ | ⟨j,d,b,q,s0,s',hg,hj,hc,hq,hse,hN⟩
  ·rw [if_pos (hyes hg)]
   refine Oper.wp_mono ?_ (hN ρ μ a w hlook h.agr hheap)
   rintro a' w' ⟨v,μ',rfl,h1,h2⟩
   exact ⟨μ',ρ,H,pure hp h1 h2⟩
  ·have h1 : SV.R ρ μ s0 (a.tmps.getD d undef) := h.look hst hok hkl hi hL hm (t := d) (by
    unfold looksG;simp only [hg]
    have : (l[j]?).bind (·.dst) = some d := by simpa using hj
    rw [this];simp) hc
   have h3 : Region.wanted o (yielded l.toArray a.tmps) = q := by
    simp only [Region.wanted,hg]
    rw [qh hj]
    exact hq ρ μ _ h1
   cases q with
   | true =>
    rw [if_pos h3]
    refine Oper.wp_mono ?_ (hN rfl ρ μ a w hlook h.agr hheap)
    rintro a' w' ⟨v,μ',rfl,h1,h2⟩
    exact ⟨μ',ρ,H,pure hp (by rw [hse];unfold SV.R;exact ⟨fun _ => h1,fun e => (by cases e)⟩) h2⟩
   | false =>
    rw [if_neg (by rw [h3];simp)]
    exact ⟨μ,ρ,H,pure hp (by rw [hse];unfold SV.R;exact ⟨fun e => (by cases e),fun _ => rfl⟩) (Stp.refl h.agr)⟩
theorem Jn.fin {μ : Mem} {ρ : Nms} {H : List Ent} {a : Act} {w : World} (h : Jn C F nt l ks f sf ob (fun i => i < l.length) μ ρ H a w) : Inv F nt (f l.length) μ ρ a w := by
 have hH : ∀ e,e ∈ H ↔ e ∈ (f l.length).H := by
  intro e
  rcases h.hat with ⟨q,h1,h2,h3,h4⟩ | ⟨h1,h2⟩
  ·rw [h4,uW hst (show q + 1 ≤ l.length by omega) (Nat.le_refl _) (fun k h5 h6 h7 => by have := h3 k h6 h7;omega) hkl e]
   refine ⟨.inl,fun h8 => h8.elim id fun ⟨k,h9,h10,h11,h12⟩ => ?_⟩
   have ho := List.getElem?_eq_getElem h10
   have := (y2 hok ho).late (by rw [List.getD_eq_getElem?_getD,h11];rfl) q h2
   omega
  ·rw [uW hst (Nat.zero_le _) (Nat.le_refl _) (fun k _ h6 h7 => h1 k h6 h7) hkl e,h2]
   exact ⟨fun h3 => h3.imp id (fun ⟨j,h4,h5⟩ => ⟨j,Nat.zero_le _,h4,h5⟩),fun h3 => h3.imp id (fun ⟨j,_,h4,h5⟩ => ⟨j,h4,h5⟩)⟩
 refine ⟨h.size,h.defers,?_,h.agr,h.heap.sub fun e he => (hH e).2 he,?_,h.os,h.tape,h.output,h.hsize,h.block,h.le,h.new,fun e he => h.own e ((hH e).2 he)⟩
 ·intro t s hs
  rcases lk_text hst (Nat.le_refl _) hs with ⟨j,o,h1,h2,h3,rfl⟩ | ⟨h1,h2⟩
  ·exact h.done j o t h1 h2 h3
  ·exact h.rest t s (fun j o hj => h1 j o hj) h2
 ·intro i hi
  rcases h.nms i hi with h1 | ⟨j,h1,h2,h3⟩
  ·have := qw hst (Nat.zero_le l.length) (Nat.le_refl _);omega
  ·have := qw hst (show j + 1 ≤ l.length by omega) (Nat.le_refl _);omega
theorem Jn.any {Q : Exit → Act → World → Prop} {n : Nat} (hq : ∀ μ ρ a w,Inv F nt (f l.length) μ ρ a w → Q .normal a w) :
 ∀ (fuel : Nat) (listed : Array Bool) (μ : Mem) (ρ : Nms) (H : List Ent) (a : Act) (w : World),listed.size = l.length → listed.toList.count false ≤ fuel → Jn C F nt l ks f sf ob (Lst l.length listed) μ ρ H a w → wpAnyIn F.fen n C.P .any l.toArray Q fuel listed a w := by
 have hfin : ∀ (listed : Array Bool) (μ : Mem) (ρ : Nms) (H : List Ent) (a : Act) (w : World),listed.size = l.length → Jn C F nt l ks f sf ob (Lst l.length listed) μ ρ H a w → Region.ready .any l.toArray listed = [] → Q .normal a w := by
  intro listed μ ρ H a w hsz h hr
  have hall := not_ready hsz hr (fun i o ho => (y2 hok ho).dep)
  have he : Lst l.length listed = fun i => i < l.length := funext fun i => propext ⟨fun h => h.1,fun h => hall i h⟩
  rw [he] at h
  exact hq _ _ _ _ (h.fin hst hok hkl)
 intro fuel
 induction fuel with
 | zero =>
  intro listed μ ρ H a w hsz hc h
  have hr : Region.ready .any l.toArray listed = [] := by
   cases hr : Region.ready .any l.toArray listed with
   | nil => rfl
   | cons i r =>
    exfalso
    obtain ⟨o,ho,hl,_⟩ := jV (ops := l.toArray) (listed := listed) (i := i) (by rw [hr];exact List.mem_cons_self)
    have hi : i < listed.size := by rw [hsz];exact (List.getElem?_eq_some_iff.1 (by simpa using ho)).1
    have hm : false ∈ listed.toList := by
     rw [Array.getD_eq_getD_getElem?,Array.getElem?_eq_getElem hi] at hl
     simp only [Option.getD_some] at hl
     rw [← hl]
     exact Array.getElem_mem_toList hi
    have := List.count_pos_iff.2 hm
    omega
  exact ⟨hr,hfin listed μ ρ H a w hsz h hr⟩
 | succ fuel ih =>
  intro listed μ ρ H a w hsz hc h
  refine ⟨hfin listed μ ρ H a w hsz h,fun i hi => ?_⟩
  obtain ⟨o,ho,hl,hdep⟩ := jV hi
  have ho' : l[i]? = some o := by simpa using ho
  have hlt : i < l.length := (List.getElem?_eq_some_iff.1 ho').1
  have hlf : listed[i]? = some false := by
   rw [Array.getD_eq_getD_getElem?,Array.getElem?_eq_getElem (by omega)] at hl
   rw [Array.getElem?_eq_getElem (by omega)]
   simpa using hl
  have hstep := h.step hst hok hkl ho' (fun hL => by
   have := hL.2
   rw [Array.getD_eq_getD_getElem?,hlf] at this
   simp at this) (fun e he hb => ⟨Nat.lt_trans ((y2 hok ho').dep e he hb) hlt,hdep e he hb⟩)
  have hL : (fun j => Lst l.length listed j ∨ j = i) = Lst l.length (listed.setIfInBounds i true) := by
   funext j
   apply propext
   unfold Lst
   rw [Array.getD_eq_getD_getElem?,Array.getD_eq_getD_getElem?,Array.getElem?_setIfInBounds]
   by_cases e : i = j
   ·subst e
    rw [if_pos rfl,if_pos (by omega)]
    simp [hlt]
   ·rw [if_neg e]
    constructor
    ·rintro (h1 | h1)
     ·exact h1
     ·exact absurd h1.symm e
    ·exact .inl
  rw [hL] at hstep
  have hcnt : (listed.setIfInBounds i true).toList.count false ≤ fuel := by
   rw [Array.toList_setIfInBounds]
   have h1 : i < listed.toList.length := by simpa using (by omega : i < listed.size)
   have h2 : listed.toList[i] = false := by
    have := Array.getElem?_eq_some_iff.1 hlf
    simpa using this.2
   have h3 := List.count_set (a := true) (b := false) (l := listed.toList) (i := i) h1
   rw [h2] at h3
   have h4 : listed.toList.count false ≤ fuel + 1 := hc
   have h5 := List.count_pos_iff.2 (h2 ▸ List.getElem_mem h1 : false ∈ listed.toList)
   have h6 : (listed.toList.set i true).count false = listed.toList.count false - 1 := by rw [h3];rfl
   omega
  unfold wpOpIn
  rw [ho]
  unfold Next1 at hstep
  dsimp only
  split
  ·rename_i hw
   rw [if_pos hw] at hstep
   exact jG (fun a' w' ⟨_,_,_,h3⟩ => h3.defers.trans h.defers.symm) (fun a' w' ⟨μ',ρ',H',h2⟩ => ih _ μ' ρ' H' a' w' (by simpa using hsz) hcnt h2) hstep
  ·rename_i hw
   rw [if_neg hw] at hstep
   obtain ⟨μ',ρ',H',h2⟩ := hstep
   exact ⟨fun _ _ => trivial,ih _ μ' ρ' H' _ _ (by simpa using hsz) hcnt h2⟩
end
section
variable {C : Cfg} {F : Fx} {nt : Nat} {x y : St} {Q : Exit → St → Prop} {l : List Oper} {ks : List Nat} {ss : List SV}
theorem WP.region {id : Nat} (h : AL C l.toArray nt ks l x ss y) (hq : Q .normal y) : WP C F nt (.region id l.toArray false) Q x := fun _ _ _ _ hi =>
 wpIn_region_lit (h.sound hi fun μ' ρ' _ _ h2 => ⟨y,μ',ρ',hq,h2⟩)
theorem WP.draw {id : Nat} (h : AL C l.toArray nt ks l x ss y) (hok : regOk l ks = true) (hq : Q .normal y) : WP C F nt (.region id l.toArray true) Q x := by
 intro μ ρ a w hi
 obtain ⟨hkl,f,sf,ob,h0,h1,hst⟩ := h.at
 refine wpIn_region_any C.mixed ?_
 refine Jn.any hst hok hkl (F := F) (fun μ' ρ' a' w' h2 => ⟨y,μ',ρ',hq,by rw [h1] at h2;exact h2⟩) _ _ μ ρ x.H a _ (by simp) (by simp) ?_
 have hno : ∀ i,¬ Lst l.length (Array.replicate l.toArray.size false) i := by
  rintro i ⟨h2,h3⟩
  rw [Array.getD_eq_getD_getElem?,Array.getElem?_replicate] at h3
  split at h3 <;> simp at h3
 refine ⟨hi.size,hi.defers,fun i o d hL => (hno i hL).elim,?_,hi.agr,hi.heap,.inr ⟨fun i hL => (hno i hL).elim,fun e => ?_⟩,?_,fun i hL => (hno i hL).elim,fun i hL => (hno i hL).elim,hi.os,hi.tape,hi.output,hi.hsize,hi.block,hi.le,hi.new,hi.own⟩
 ·intro d s _ hs
  rw [h0] at hs
  exact hi.env d s hs
 ·rw [h0]
  exact ⟨.inl,fun h => h.elim (fun h => h) fun ⟨j,hj,_⟩ => (hno j hj).elim⟩
 ·intro i h2
  rw [h0]
  exact .inl (hi.nms i h2)
end
theorem Cells.take {μ : Mem} {b o : Nat} {l : List IV} (k : Cells μ b o l) (n : Nat) : Cells μ b o (l.take n) := fun j s hj => by
 rw [List.getElem?_take] at hj
 split at hj
 ·exact k j s hj
 ·cases hj
theorem Cells.vals {μ : Mem} {w : World} (ha : Agr μ w) {b : Nat} : ∀ {l : List IV} {o : Nat},Cells μ b o l → ∃ vs : List Value,IVs μ l vs ∧ (∀ j v,vs[j]? = some v → w.cell? ⟨b,o + j,none⟩ = some v) ∧ One vs
 | [],o,_ => ⟨[],rfl,fun j v h => by simp at h,fun u h => by simp at h⟩
 | s :: l,o,k => by
  obtain ⟨cs,v,h1,h2,h3,h9⟩ := k 0 s rfl
  obtain ⟨vs,h4,h5,h10⟩ := Cells.vals ha (l := l) (o := o + 1) (fun j s' hj => by
   obtain ⟨cs',v',h6,h7,h8⟩ := k (j + 1) s' (by simpa using hj)
   exact ⟨cs',v',h6,by rw [show o + 1 + j = o + (j + 1) by omega];exact h7,h8⟩)
  refine ⟨v :: vs,⟨v,vs,rfl,h3,h4⟩,fun j u hj => ?_,fun u hu => (List.mem_cons.1 hu).elim (fun e => e ▸ h9) (h10 u)⟩
  cases j with
  | zero =>
   simp at hj;subst hj
   obtain ⟨t,fz,hh⟩ := ha b cs h1
   simp only [World.cell?,hh]
   exact h2
  | succ j => rw [show o + (j + 1) = o + 1 + j by omega];exact h5 j u (by simpa using hj)
theorem TyIs.size {P : Program} {t : TypeId} {d : TyInf} (h : TyIs P t d) (w : World) : (sizeOf t).run P w = .ok d.size w := by
 obtain ⟨_,i,h1,h2,h3,h4⟩ := h
 simp [sizeOf,typeInfo,h1,h3]
theorem TyIs.und {P : Program} {t : TypeId} {d : TyInf} (h : TyIs P t d) (w : World) : (underlying t).run P w = .ok d.und w := run_underlying h.1 w
theorem TyIs.zero {P : Program} {t : TypeId} {d : TyInf} (h : TyIs P t d) (w : World) : (zeroValue t).run P w = .ok d.zero w := by
 obtain ⟨_,i,h1,h2,h3,h4⟩ := h
 simp [zeroValue,typeInfo,h1,h2]
def aggB : TypeDesc → Bool
 | .struct _ => true
 | .array _ _ => true
 | _ => false
theorem TyIs.agg {P : Program} {t : TypeId} {d : TyInf} (h : TyIs P t d) (w : World) : (isAgg t).run P w = .ok (aggB d.und) w := by
 unfold isAgg
 rw [Sem.run_bind,h.und w]
 simp only [Result.andThen_ok]
 cases d.und <;> rfl
def ev (σ : Env) : Operand → Option SV
 | .tmp t => lk σ t
 | .const v => some (.im (IV.val v))
 | .func f => some (.im (IV.fn f []))
 | .global _ => none
def Ev (σ : Env) (x : Operand) (s : SV) : Prop := ∃ s0,ev σ x = some s0 ∧ ∀ ρ μ v,GhR σ μ → SV.R ρ μ s0 v → SV.R ρ μ s v
theorem Ev.base {σ : Env} {x : Operand} {s : SV} (h : ev σ x = some s) : Ev σ x s := ⟨s,h,fun _ _ _ _ h => h⟩
theorem Ev.cnd {σ : Env} {x : Operand} {b : Bool} {s : SV} (h : ev σ x = some (.cnd b s)) (hb : b = true) : Ev σ x s := ⟨_,h,fun _ _ _ _ h => by unfold SV.R at h;exact h.1 hb⟩
theorem Ev.is {σ : Env} {x : Operand} {u : Value} {s : SV} (h : ev σ x = some (.is u s)) : Ev σ x s := ⟨_,h,fun _ _ _ _ h => by unfold SV.R at h;exact h.2⟩
theorem Ev.to {σ : Env} {x : Operand} {s s' : SV} (h : Ev σ x s) (k : ∀ ρ μ v,SV.R ρ μ s v → SV.R ρ μ s' v) : Ev σ x s' := by
 obtain ⟨s0,h1,h2⟩ := h
 exact ⟨s0,h1,fun ρ μ v hg h3 => k ρ μ v (h2 ρ μ v hg h3)⟩
theorem Ev.wth {σ : Env} {x : Operand} {M : Mem} {s : IV} (h : Ev σ x (.im s)) (hg : lk σ ghT = some (.im (IV.gh M))) : Ev σ x (.im (IV.wth M s)) := by
 obtain ⟨s0,h1,h2⟩ := h
 refine ⟨s0,h1,fun ρ μ v hM h3 => ?_⟩
 have h4 := h2 ρ μ v hM h3
 unfold SV.R at h4 ⊢
 exact ⟨h4,hM M hg⟩
theorem Ev.at {σ : Env} {x : Operand} {s : SV} (h : Ev σ x s) {ρ : Nms} {μ : Mem} {o : Oper} {a : Act} (hl : LookOk ρ μ σ o a) (hx : x ∈ o.op.operands.toList) : SV.R ρ μ s (a.eval x) := by
 obtain ⟨s0,h1,h2⟩ := h
 refine h2 _ _ _ (fun M hM => ?_) ?_
 ·have h3 := hl ghT List.mem_cons_self _ hM
  unfold SV.R at h3
  exact h3
 cases x with
 | tmp t => exact hl t (List.mem_cons_of_mem _ (by rw [List.mem_filterMap];exact ⟨.tmp t,hx,rfl⟩)) s0 h1
 | const v =>
  simp only [ev,Option.some.injEq] at h1;subst h1
  unfold SV.R;exact (rfl : a.eval (.const v) = v)
 | func f =>
  simp only [ev,Option.some.injEq] at h1;subst h1
  unfold SV.R
  exact ⟨[],rfl,rfl⟩
 | global g => cases h1
theorem oi {ρ : Nms} {μ : Mem} {s : IV} {v : Value} : SV.R ρ μ (.im s) v ↔ s.p μ v := by unfold SV.R;exact Iff.rfl
theorem Ev.val {σ : Env} {x : Operand} {u : Value} (h : Ev σ x (.im (IV.val u))) {ρ : Nms} {μ : Mem} {o : Oper} {a : Act} (hl : LookOk ρ μ σ o a) (hx : x ∈ o.op.operands.toList) : a.eval x = u := oi.1 (h.at hl hx)
theorem Ev.im {σ : Env} {x : Operand} {s : IV} (h : Ev σ x (.im s)) {ρ : Nms} {μ : Mem} {o : Oper} {a : Act} (hl : LookOk ρ μ σ o a) (hx : x ∈ o.op.operands.toList) : s.p μ (a.eval x) := oi.1 (h.at hl hx)
section
variable {C : Cfg} {σ : Env}
theorem OpN.run {o : Oper} {s : SV} (h : ∀ ρ μ a w,LookOk ρ μ σ o a → Agr μ w → ∃ v μ' w',(execOp a.eval o).run C.P w = .ok (.value v) w' ∧ SV.R ρ μ' s v ∧ Stp μ w μ' w') : OpN C o σ s := fun ρ μ a w hl ha => by
 obtain ⟨v,μ',w',h1,h2,h3⟩ := h ρ μ a w hl ha
 unfold Oper.wp
 rw [h1]
 exact ⟨v,μ',rfl,h2,h3⟩
theorem OpN.pure {o : Oper} {s : SV} (h : ∀ ρ μ a w,LookOk ρ μ σ o a → Agr μ w → ∃ v,(execOp a.eval o).run C.P w = .ok (.value v) w ∧ SV.R ρ μ s v) : OpN C o σ s := OpN.run fun ρ μ a w hl ha => by
 obtain ⟨v,h1,h2⟩ := h ρ μ a w hl ha
 exact ⟨v,μ,w,h1,h2,Stp.refl ha⟩
variable {d : Option Tmp} {ty : TypeId} {pos : String} {after : Array Edge} {gu : Option (Nat × Bool)}
theorem o4 {x : Operand} {s : SV} (hx : Ev σ x s) : OpN C ⟨d,.move x,ty,pos,after,gu⟩ σ s := OpN.pure fun ρ μ a w hl ha => ⟨_,rfl,hx.at hl (by simp [Op.operands])⟩
theorem vn {x : Operand} {s : SV} (hx : Ev σ x s) : OpN C ⟨d,.assign x,ty,pos,after,gu⟩ σ s := OpN.pure fun ρ μ a w hl ha => ⟨_,rfl,hx.at hl (by simp [Op.operands])⟩
def ldI (dt : TyInf) (l : List IV) : Option SV := match aggB dt.und with
 | true => match Nat.ble dt.size l.length with
  | true => some (.agg ((l.take dt.size).map SV.im))
  | false => none
 | false => match l with
  | s :: _ => some (.im s)
  | [] => none
theorem run_load_ptr {ρ : Nms} {μ : Mem} {w : World} (ha : Agr μ w) {t : TypeId} {dt : TyInf} (ht : TyIs C.P t dt) {l : List IV} {s : SV} (hs : ldI dt l = some s) {u : Value} (hu : (IV.ptr l).p μ u) :
 ∃ v,(Instr.loadAt t u).run C.P w = .ok v w ∧ SV.R ρ μ s v := by
 obtain ⟨b,o,rfl,hc⟩ := hu
 unfold ldI at hs
 cases hag : aggB dt.und with
 | true =>
  rw [hag] at hs
  simp only at hs
  cases hb : Nat.ble dt.size l.length with
  | false => rw [hb] at hs;cases hs
  | true =>
   rw [hb] at hs
   injection hs with hs
   subst hs
   have hle := Nat.le_of_ble_eq_true hb
   obtain ⟨vs,h1,h2,h9⟩ := (hc.take dt.size).vals ha
   have hlen : vs.length = dt.size := by rw [h1.length,List.length_take];omega
   have h3 := run_loadCells_list (P := C.P) w ⟨b,o,none⟩ vs (fun j v hj => by
    have := h2 j v hj
    by_cases h0 : j = 0 <;> simp [Addr.add,h0] <;> simpa [h0] using this)
   rw [hlen] at h3
   refine ⟨.agg vs.toArray,?_,?_⟩
   ·simp only [Instr.loadAt,Instr.sureAddr,loadVar,Sem.run_bind,Sem.run_pure,Result.andThen_ok,ht.agg w,hag,if_true,ht.size w,h3]
   ·unfold SV.R;exact ⟨vs,rfl,SV.Rs.im.2 h1,h9⟩
 | false =>
  rw [hag] at hs
  simp only at hs
  cases l with
  | nil => cases hs
  | cons s0 l =>
   injection hs with hs
   subst hs
   obtain ⟨cs,v,h1,h2,h3,_⟩ := hc 0 s0 rfl
   obtain ⟨t',fz,hh⟩ := ha b cs h1
   have hcell : w.cell? ⟨b,o,none⟩ = some v := by simp only [World.cell?,hh];exact h2
   refine ⟨v,?_,oi.2 h3⟩
   simp only [Instr.loadAt,Instr.sureAddr,loadVar,Sem.run_bind,Sem.run_pure,Result.andThen_ok,ht.agg w,hag,if_false,Bool.false_eq_true,run_load,hcell]
theorem oQ {t : TypeId} {x : Operand} {dt : TyInf} {l : List IV} {s : SV} (ht : C.tt t = some dt) (hx : Ev σ x (.im (IV.ptr l))) (hs : ldI dt l = some s) : OpN C ⟨d,.load t x,ty,pos,after,gu⟩ σ s := OpN.pure fun ρ μ a w hl ha => by
 obtain ⟨v,h1,h2⟩ := run_load_ptr (ρ := ρ) ha (C.ok _ _ ht) hs (hx.im hl (by simp [Op.operands]))
 refine ⟨v,?_,h2⟩
 simp only [execOp,Sem.run_bind,h1,Result.andThen_ok,Sem.run_pure]
def fld (C : Cfg) (t : TypeId) (f : Nat) : Option Nat := match C.tt t with
 | some dt => match dt.und with
  | .struct fs => match fs[f]? with
   | some fd => match C.tt fd.type with
    | some df => match df.size with
     | 0 => none
     | _ + 1 => some fd.offset
    | none => none
   | none => none
  | _ => none
 | none => none
theorem run_fieldAt {t : TypeId} {f o : Nat} (h : fld C t f = some o) (w : World) (b q : Nat) : (Instr.fieldAt t (.pointer (some ⟨b,q,none⟩)) f).run C.P w = .ok (.pointer (some ⟨b,q + o,none⟩)) w := by
 unfold fld at h
 cases h1 : C.tt t with
 | none => simp [h1] at h
 | some dt =>
  simp only [h1] at h
  have ht := C.ok _ _ h1
  cases h2 : dt.und with
  | struct fs =>
   simp only [h2] at h
   cases h3 : fs[f]? with
   | none => simp [h3] at h
   | some fd =>
    simp only [h3] at h
    cases h4 : C.tt fd.type with
    | none => simp [h4] at h
    | some df =>
     simp only [h4] at h
     cases h5 : df.size with
     | zero => simp [h5] at h
     | succ n =>
      simp only [h5,Option.some.injEq] at h
      subst h
      have h6 := (C.ok _ _ h4).size w
      have h7 := ht.und w
      rw [h2] at h7
      have h8 : (⟨b,q,none⟩ : Addr).add fd.offset = ⟨b,q + fd.offset,none⟩ := by by_cases h0 : fd.offset = 0 <;> simp [Addr.add,h0]
      simp [Instr.fieldAt,Instr.sureAddr,fieldPlace,Sem.run_bind,h7,h3,h6,h5,h8]
  | _ => simp [h2] at h
theorem qU {t : TypeId} {x : Operand} {f o : Nat} {l : List IV} (hf : fld C t f = some o) (hx : Ev σ x (.im (IV.ptr l))) : OpN C ⟨d,.fieldAddr t x f,ty,pos,after,gu⟩ σ (.im (IV.ptr (l.drop o))) := OpN.pure fun ρ μ a w hl ha => by
 obtain ⟨b,q,h1,h2⟩ := hx.im hl (by simp [Op.operands])
 refine ⟨_,?_,oi.2 ⟨b,q + o,rfl,h2.drop o⟩⟩
 simp only [execOp,Sem.run_bind,h1,run_fieldAt hf w b q,Result.andThen_ok,Sem.run_pure]
theorem ou {t : TypeId} {x : Operand} {f o i q : Nat} (hf : fld C t f = some o) (hx : Ev σ x (.off i q)) : OpN C ⟨d,.fieldAddr t x f,ty,pos,after,gu⟩ σ (.off i (q + o)) := OpN.pure fun ρ μ a w hl ha => by
 have h0 := hx.at hl (by simp [Op.operands])
 unfold SV.R at h0
 obtain ⟨g,h1,h2⟩ := h0
 refine ⟨_,?_,by unfold SV.R;exact ⟨g,h1,rfl⟩⟩
 simp only [execOp,Sem.run_bind,h2,run_fieldAt hf w g q,Result.andThen_ok,Sem.run_pure]
def slE (C : Cfg) (t : TypeId) : Option Nat := match C.tt t with
 | some dt => match dt.und with
  | .slice e => match C.tt e with
   | some de => some de.size
   | none => none
  | _ => none
 | none => none
theorem slE_at {t : TypeId} {k : Nat} (h : slE C t = some k) : ∃ e de,C.P.underlying t = some (.slice e) ∧ TyIs C.P e de ∧ de.size = k := by
 unfold slE at h
 cases h1 : C.tt t with
 | none => simp [h1] at h
 | some dt =>
  simp only [h1] at h
  have ht := C.ok _ _ h1
  cases h2 : dt.und with
  | slice e =>
   simp only [h2] at h
   cases h3 : C.tt e with
   | none => simp [h3] at h
   | some de =>
    simp only [h3,Option.some.injEq] at h
    exact ⟨e,de,by rw [ht.1,h2],C.ok _ _ h3,h⟩
  | _ => simp [h2] at h
theorem jP {t : TypeId} {k : Nat} (h : slE C t = some k) (w : World) (b o n c : Nat) (i : Int) (kd : IntKind) (h0 : 0 ≤ i) (h1 : i < n) :
 (Instr.indexAt t (.slice (some ⟨b,o,none⟩) n c) (.int kd i)).run C.P w = .ok (.pointer (some ⟨b,o + i.toNat * k,none⟩)) w := by
 obtain ⟨e,de,h2,h3,rfl⟩ := slE_at h
 have h8 : (⟨b,o,none⟩ : Addr).add (i.toNat * de.size) = ⟨b,o + i.toNat * de.size,none⟩ := by by_cases h0 : i.toNat * de.size = 0 <;> simp [Addr.add,h0]
 simp [Instr.indexAt,asIntOf,Sem.run_bind,run_underlying h2,h0,h1,h3.size w,h8]
theorem o7 {α : Type} {t : TypeId} {x ix : Operand} {k : Nat} {enc : α → List IV} {xs : List α} {i : Int} {y : α} (hk : slE C t = some k) (hx : Ev σ x (.im (IV.view k enc xs))) (hi : Ev σ ix (.im (IV.int i))) (h0 : 0 ≤ i) (hy : xs[i.toNat]? = some y) :
 OpN C ⟨d,.indexAddr t x ix,ty,pos,after,gu⟩ σ (.im (IV.ptr (enc y))) := OpN.pure fun ρ μ a w hl ha => by
 obtain ⟨A,c,h1,h2,h3,h4⟩ := hx.im hl (by simp [Op.operands])
 have h5 := hi.val hl (by simp [Op.operands])
 have hlt := (List.getElem?_eq_some_iff.1 hy).1
 rcases h4 with rfl | ⟨b,o,rfl,h6⟩
 ·simp at hlt
 ·refine ⟨_,?_,oi.2 ⟨b,_,rfl,h6 _ _ hy⟩⟩
  simp only [execOp,Sem.run_bind,h1,h5,jP hk w b o xs.length c i .i64 h0 (by omega),Result.andThen_ok,Sem.run_pure]
theorem ye {t : TypeId} {x ix : Operand} {k r n : Nat} {i : Int} (hk : slE C t = some k) (hx : Ev σ x (.row r n)) (hi : Ev σ ix (.im (IV.int i))) (h0 : 0 ≤ i) (h1 : i < n) :
 OpN C ⟨d,.indexAddr t x ix,ty,pos,after,gu⟩ σ (.off r (i.toNat * k)) := OpN.pure fun ρ μ a w hl ha => by
 have h2 := hx.at hl (by simp [Op.operands])
 unfold SV.R at h2
 obtain ⟨h3,A,c,h4,h5⟩ := h2
 have h6 := hi.val hl (by simp [Op.operands])
 rcases h5 with rfl | ⟨g,rfl⟩
 ·omega
 ·refine ⟨_,?_,by unfold SV.R;exact ⟨g,by rw [h3,h4];rfl,rfl⟩⟩
  simp only [execOp,Sem.run_bind,h4,h6,jP hk w g 0 n c i .i64 h0 h1,Result.andThen_ok,Sem.run_pure,Nat.zero_add]
def arith : BinOp → Int → Int → Option Int
 | .add,a,b => some (wrap64 (a + b))
 | .sub,a,b => some (wrap64 (a - b))
 | .mul,a,b => some (wrap64 (a * b))
 | _,_,_ => none
def cmpI : BinOp → Int → Int → Option Bool
 | .eql,a,b => some (a == b)
 | .neq,a,b => some (a != b)
 | .lss,a,b => some (decide (a < b))
 | .leq,a,b => some (decide (a ≤ b))
 | .gtr,a,b => some (decide (a > b))
 | .geq,a,b => some (decide (a ≥ b))
 | _,_,_ => none
theorem wrap_i64 (n : Int) : IntKind.i64.wrap n = wrap64 n := by rw [IntKind.wrap_i64];unfold wrap64;omega
theorem ox (op : BinOp) (t : TypeId) (x y : Operand) (k k' : IntKind) (a b : Int) (w : World) : (eqGuard op t x y (.int k a) (.int k' b)).run C.P w = .ok () w := by
 unfold eqGuard;cases op <;> simp
theorem oo {op : BinOp} {t t' : TypeId} {x y : Operand} {a b c : Int} (hx : Ev σ x (.im (IV.int a))) (hy : Ev σ y (.im (IV.int b))) (hc : arith op a b = some c) : OpN C ⟨d,.binOp op t x y t',ty,pos,after,gu⟩ σ (.im (IV.int c)) := OpN.pure fun ρ μ ac w hl ha => by
 have h1 := hx.val hl (by simp [Op.operands])
 have h2 := hy.val hl (by simp [Op.operands])
 refine ⟨_,?_,oi.2 rfl⟩
 cases op <;> simp [arith] at hc <;> subst hc <;> simp [execOp,h1,h2,ox,binOp,Op.intArith,wrap_i64]
theorem oC {op : BinOp} {t t' : TypeId} {x y : Operand} {a b : Int} {c : Bool} (hx : Ev σ x (.im (IV.int a))) (hy : Ev σ y (.im (IV.int b))) (hc : cmpI op a b = some c) : OpN C ⟨d,.binOp op t x y t',ty,pos,after,gu⟩ σ (.im (IV.bool c)) := OpN.pure fun ρ μ ac w hl ha => by
 have h1 := hx.val hl (by simp [Op.operands])
 have h2 := hy.val hl (by simp [Op.operands])
 refine ⟨_,?_,oi.2 rfl⟩
 cases op <;> simp [cmpI] at hc <;> subst hc <;> simp [execOp,h1,h2,ox,binOp,Op.intCmp]
theorem yq {op : BinOp} {a b c : Int} (h : arith op a b = some (wrap64 c)) (h1 : -9223372036854775808 ≤ c) (h2 : c ≤ 9223372036854775807) : arith op a b = some c := by
 rw [h];congr 1;unfold wrap64;omega
theorem uE {t : TypeId} {x : Operand} {b : Bool} (hx : Ev σ x (.im (IV.bool b))) : OpN C ⟨d,.unOp .not t x,ty,pos,after,gu⟩ σ (.im (IV.bool (!b))) := OpN.pure fun ρ μ a w hl ha => by
 have h1 := hx.val hl (by simp [Op.operands])
 refine ⟨_,?_,oi.2 rfl⟩
 simp [execOp,h1,Op.unary]
theorem oU {c x y : Operand} {b b' g : Bool} (hc : Ev σ c (.im (IV.bool b))) (hx : ev σ x = some (.cnd g (.im (IV.bool b')))) (hg : b = true → g = true) (hy : ev σ y = some (.im (IV.bool false))) : OpN C ⟨d,.pick c x y,ty,pos,after,gu⟩ σ (.im (IV.bool (b && b'))) := OpN.pure fun ρ μ a w hl ha => by
 have h1 := hc.val hl (by simp [Op.operands])
 have h2 := (Ev.base hx).at hl (by simp [Op.operands])
 have h3 := (Ev.base hy).val hl (by simp [Op.operands])
 refine ⟨_,by simp [execOp,h1,asBool];rfl,oi.2 ?_⟩
 cases b with
 | true =>
  unfold SV.R at h2
  have h4 := oi.1 (h2.1 (hg rfl))
  exact h4
 | false => exact h3
theorem ue {c x y : Operand} {b b' g : Bool} (hc : Ev σ c (.im (IV.bool b))) (hx : ev σ x = some (.im (IV.bool true))) (hy : ev σ y = some (.cnd g (.im (IV.bool b')))) (hg : b = false → g = true) : OpN C ⟨d,.pick c x y,ty,pos,after,gu⟩ σ (.im (IV.bool (b || b'))) := OpN.pure fun ρ μ a w hl ha => by
 have h1 := hc.val hl (by simp [Op.operands])
 have h2 := (Ev.base hx).val hl (by simp [Op.operands])
 have h3 := (Ev.base hy).at hl (by simp [Op.operands])
 refine ⟨_,by simp [execOp,h1,asBool];rfl,oi.2 ?_⟩
 cases b with
 | true => exact h2
 | false =>
  unfold SV.R at h3
  exact oi.1 (h3.1 (hg rfl))
theorem yV {x : Operand} {l : List IV} {i : Nat} {s : IV} (hx : Ev σ x (.im (IV.tup l))) (hs : l[i]? = some s) : OpN C ⟨d,.extract x i,ty,pos,after,gu⟩ σ (.im s) := OpN.pure fun ρ μ a w hl ha => by
 obtain ⟨vs,h1,h2⟩ := hx.im hl (by simp [Op.operands])
 obtain ⟨v,h3,h4⟩ := h2.get hs
 refine ⟨v,?_,oi.2 h4⟩
 simp [execOp,h1,Instr.extract,h3]
theorem qj {α : Type} {t : TypeId} {x : Operand} {k k' : Nat} {enc : α → List IV} {xs : List α} (hk : slE C t = some k') (hx : Ev σ x (.im (IV.view k enc xs))) : OpN C ⟨d,.call { callee := .builtin .len,args := #[x],argTypes := #[t] },ty,pos,after,gu⟩ σ (.im (IV.int xs.length)) := OpN.pure fun ρ μ a w hl ha => by
 obtain ⟨A,c,h1,_⟩ := hx.im hl (by simp [Op.operands,Call.operands])
 obtain ⟨e,de,h9,_,_⟩ := slE_at hk
 refine ⟨_,?_,oi.2 rfl⟩
 simp [execOp,resolve,invoke,builtin,h1,Builtin.len_,goInt,run_underlying h9]
theorem oX {f : FuncId} {args : Array Value} {fn : Func} (h1 : C.P.funcs[f]? = some fn) (h2 : fn.body.isNone = false) (h3 : (fn.name == "runtime.NumGoroutine") = false) (w : World) : (callFunc f args).run C.P w = .ok (.enter f args) w := by
 have hp : (Sem.program Sem.pure).run C.P w = .ok C.P w := rfl
 unfold callFunc program
 rw [Sem.run_bind,hp]
 simp only [Result.andThen_ok,h1,h3,h2,Bool.false_eq_true,if_false]
 rfl
def Fn (C : Cfg) (f : FuncId) (args : List IV) (s : IV) : Prop :=
 (∃ fn,C.P.funcs[f]? = some fn ∧ fn.body.isNone = false ∧ (fn.name == "runtime.NumGoroutine") = false) ∧
 ∀ μ w vs,IVs μ args vs → Agr μ w → Calls C.P f vs.toArray w fun e w' => ∃ v μ',e = .returned v ∧ s.p μ' v ∧ Stp μ w μ' w'
def Evs (σ : Env) : List Operand → List IV → Prop
 | [],l => l = []
 | x :: xs,l => ∃ s l',l = s :: l' ∧ Ev σ x (.im s) ∧ Evs σ xs l'
theorem Evs.nil {σ : Env} : Evs σ [] [] := rfl
theorem Evs.cons {σ : Env} {x : Operand} {xs : List Operand} {s : IV} {l : List IV} (h : Ev σ x (.im s)) (t : Evs σ xs l) : Evs σ (x :: xs) (s :: l) := ⟨s,l,rfl,h,t⟩
theorem Evs.at {ρ : Nms} {μ : Mem} {o : Oper} {a : Act} (hl : LookOk ρ μ σ o a) : ∀ {xs : List Operand} {l : List IV},Evs σ xs l → (∀ x ∈ xs,x ∈ o.op.operands.toList) → IVs μ l (xs.map a.eval)
 | [],_,h,_ => by cases h;exact rfl
 | x :: xs,_,⟨s,l',e,h1,h2⟩,hm => by subst e;exact ⟨_,_,rfl,h1.im hl (hm x List.mem_cons_self),Evs.at hl h2 fun y hy => hm y (List.mem_cons_of_mem _ hy)⟩
theorem o3 {f : FuncId} {xs : List Operand} {tys : Array TypeId} {args : List IV} {s : IV} (hf : Fn C f args s) (hx : Evs σ xs args) : OpN C ⟨d,.call { callee := .value (.func f),args := xs.toArray,argTypes := tys },ty,pos,after,gu⟩ σ (.im s) := fun ρ μ a w hl ha => by
 obtain ⟨⟨fn,h1,h2,h3⟩,h4⟩ := hf
 have h5 := hx.at hl (fun x hx => by simp [Op.operands,Call.operands,hx])
 have h6 : (execOp a.eval ⟨d,.call { callee := .value (.func f),args := xs.toArray,argTypes := tys },ty,pos,after,gu⟩).run C.P w = .ok (.enter f (xs.map a.eval).toArray) w := by
  simp [execOp,resolve,Act.eval,Deferred.ofValue,invoke,oX h1 h2 h3]
 unfold Oper.wp
 rw [h6]
 refine Calls.mono (h4 μ w _ h5 ha) ?_
 rintro e w' ⟨v,μ',rfl,h7,h8⟩
 exact ⟨v,μ',rfl,oi.2 h7,h8⟩
theorem oW {f : FuncId} {x : Operand} {xs : List Operand} {tys : Array TypeId} {args caps : List IV} {s : IV} (hv : Ev σ x (.im (IV.fn f caps))) (hf : Fn C f (args ++ caps) s) (hx : Evs σ xs args) : OpN C ⟨d,.call { callee := .value x,args := xs.toArray,argTypes := tys },ty,pos,after,gu⟩ σ (.im s) := fun ρ μ a w hl ha => by
 obtain ⟨⟨fn,h1,h2,h3⟩,h4⟩ := hf
 obtain ⟨cs,h9,h10⟩ := hv.im hl (by simp [Op.operands,Call.operands])
 have h5 := hx.at hl (fun x hx => by simp [Op.operands,Call.operands,hx])
 have h6 : (execOp a.eval ⟨d,.call { callee := .value x,args := xs.toArray,argTypes := tys },ty,pos,after,gu⟩).run C.P w = .ok (.enter f (xs.map a.eval ++ cs).toArray) w := by
  simp [execOp,resolve,h9,Deferred.ofValue,invoke,oX h1 h2 h3]
 have h11 : ∀ {l l' : List IV} {vs vs' : List Value},IVs μ l vs → IVs μ l' vs' → IVs μ (l ++ l') (vs ++ vs') := by
  intro l
  induction l with
  | nil => intro l' vs vs' h h';cases h;exact h'
  | cons s0 l ih => rintro l' vs vs' ⟨v,vs2,rfl,h1,h2⟩ h';exact ⟨v,_,rfl,h1,ih h2 h'⟩
 unfold Oper.wp
 rw [h6]
 refine Calls.mono (h4 μ w _ (h11 h5 h10) ha) ?_
 rintro e w' ⟨v,μ',rfl,h7,h8⟩
 exact ⟨v,μ',rfl,oi.2 h7,h8⟩
end
def Cs (s : SV) (l : List SV) : Prop := ∀ ρ μ v,SV.R ρ μ s v → SV.Rs ρ μ l v.cells.toList ∧ One v.cells.toList
theorem cs_agg {l : List SV} : Cs (.agg l) l := fun ρ μ v h => by
 unfold SV.R at h
 obtain ⟨vs,rfl,h1,h2⟩ := h
 exact ⟨h1,h2⟩
theorem cs_iagg {l : List IV} : Cs (.im (IV.agg l)) (l.map SV.im) := fun ρ μ v h => by
 obtain ⟨vs,rfl,h1,h2⟩ := oi.1 h
 exact ⟨SV.Rs.im.2 h1,h2⟩
theorem cs_one' {s : SV} (h : ∀ ρ μ v,SV.R ρ μ s v → v.oneCell' = true) : Cs s [s] := fun ρ μ v hv => by
 have h1 := h ρ μ v hv
 have h2 : v.cells = #[v] := by cases v <;> first | rfl | cases h1
 rw [h2]
 exact ⟨by unfold SV.Rs;exact ⟨v,[],rfl,hv,by unfold SV.Rs;rfl⟩,fun u hu => by simp at hu;subst hu;exact h1⟩
theorem cs_val {u : Value} (h : u.oneCell' = true) : Cs (.im (IV.val u)) [.im (IV.val u)] := cs_one' fun ρ μ v hv => by rw [show v = u from oi.1 hv];exact h
theorem cs_view {α : Type} {k : Nat} {enc : α → List IV} {xs : List α} : Cs (.im (IV.view k enc xs)) [.im (IV.view k enc xs)] := cs_one' fun ρ μ v hv => by obtain ⟨A,c,rfl,_⟩ := oi.1 hv;rfl
theorem cs_ptr {l : List IV} : Cs (.im (IV.ptr l)) [.im (IV.ptr l)] := cs_one' fun ρ μ v hv => by obtain ⟨b,o,rfl,_⟩ := oi.1 hv;rfl
theorem cs_fn {f : FuncId} {l : List IV} : Cs (.im (IV.fn f l)) [.im (IV.fn f l)] := cs_one' fun ρ μ v hv => by obtain ⟨vs,rfl,_⟩ := oi.1 hv;rfl
theorem cs_row {i n : Nat} : Cs (.row i n) [.row i n] := cs_one' fun ρ μ v hv => by unfold SV.R at hv;obtain ⟨_,A,c,rfl,_⟩ := hv;rfl
theorem cs_off {i o : Nat} : Cs (.off i o) [.off i o] := cs_one' fun ρ μ v hv => by unfold SV.R at hv;obtain ⟨g,_,rfl⟩ := hv;rfl
def ims : List SV → Option (List IV)
 | [] => some []
 | .im s :: l => match ims l with
  | some l' => some (s :: l')
  | none => none
 | _ :: _ => none
theorem jW : ∀ {l : List SV} {l' : List IV},ims l = some l' → l = l'.map SV.im
 | [],l',h => by simp [ims] at h;subst h;rfl
 | .im s :: l,l',h => by
  simp only [ims] at h
  cases h1 : ims l with
  | none => rw [h1] at h;cases h
  | some l2 => rw [h1] at h;injection h with h;subst h;rw [jW h1];rfl
 | .off _ _ :: _,_,h => by simp [ims] at h
 | .row _ _ :: _,_,h => by simp [ims] at h
 | .agg _ :: _,_,h => by simp [ims] at h
 | .cnd _ _ :: _,_,h => by simp [ims] at h
def Mem.add (μ : Mem) (b : Nat) (cs : Array Value) : Mem := fun x => if x = b then some cs else μ x
theorem Stp.newCells {μ : Mem} {w : World} (ha : Agr μ w) (cs : Array Value) (t : TypeId) : Stp μ w (μ.add w.heap.size cs) (w.alloc (.cells cs t)) := by
 refine ⟨(Below.refl _ _).alloc (Nat.le_refl _) _,fun b c h => ?_,fun b h => ?_,fun b c h => ?_⟩
 ·unfold Mem.add
  by_cases e : b = w.heap.size
  ·exact absurd (ha.lt (by rw [h];simp)) (by omega)
  ·rw [if_neg e];exact h
 ·by_cases e : b = w.heap.size
  ·exact .inr (by omega)
  ·unfold Mem.add at h;rw [if_neg e] at h;exact .inl h
 ·unfold Mem.add at h
  by_cases e : b = w.heap.size
  ·rw [if_pos e] at h;injection h with h;subst h;subst e
   exact ⟨t,(0,0),heap_alloc_new w _⟩
  ·rw [if_neg e] at h
   obtain ⟨t',fz,hh⟩ := ha b c h
   have hlt := (Array.getElem?_eq_some_iff.1 hh).1
   exact ⟨t',fz,by rw [Below.heap_alloc w _ _ hlt];exact hh⟩
theorem Stp.alloc {μ : Mem} {w : World} (ha : Agr μ w) (o : Obj) : Stp μ w μ (w.alloc o) := by
 refine ⟨(Below.refl _ _).alloc (Nat.le_refl _) _,Mem.le.refl _,fun b h => .inl h,fun b c h => ?_⟩
 obtain ⟨t',fz,hh⟩ := ha b c h
 have hlt := (Array.getElem?_eq_some_iff.1 hh).1
 exact ⟨t',fz,by rw [Below.heap_alloc w _ _ hlt];exact hh⟩
theorem Cells.new {μ : Mem} {w : World} {l : List IV} {vs : List Value} (h : IVs μ l vs) (h1 : One vs) (hl : Mem.le μ (μ.add w.heap.size vs.toArray)) : Cells (μ.add w.heap.size vs.toArray) w.heap.size 0 l := fun j s hj => by
 obtain ⟨v,h2,h3⟩ := h.get hj
 refine ⟨vs.toArray,v,by unfold Mem.add;rw [if_pos rfl],by rw [Nat.zero_add];simpa using h2,s.mono hl h3,h1 v (List.mem_of_getElem? h2)⟩
section
variable {C : Cfg} {σ : Env} {d : Option Tmp} {ty : TypeId} {pos : String} {after : Array Edge} {gu : Option (Nat × Bool)}
theorem vu (t : TypeId) (v : Value) (w : World) : (newVar t v).run C.P w = .ok ⟨w.heap.size,0,none⟩ (w.alloc (.cells v.cells t)) := by
 simp [newVar,newRow,newObj,Sem.run]
theorem opn_box {t : TypeId} {x : Operand} {s : SV} {l : List SV} {l' : List IV} (hx : Ev σ x s) (hc : Cs s l) (hi : ims l = some l') : OpN C ⟨d,.box t x,ty,pos,after,gu⟩ σ (.im (IV.ptr l')) := OpN.run fun ρ μ a w hl ha => by
 obtain ⟨h1,h2⟩ := hc ρ μ _ (hx.at hl (by simp [Op.operands]))
 rw [jW hi] at h1
 have hs := Stp.newCells ha (a.eval x).cells t
 refine ⟨_,_,_,?_,oi.2 ⟨w.heap.size,0,rfl,?_⟩,hs⟩
 ·simp only [execOp,Instr.box,Sem.run_bind,vu,Result.andThen_ok,Sem.run_pure]
 ·have := Cells.new (w := w) (SV.Rs.im.1 h1) h2 (by simpa using hs.le)
  simpa using this
theorem jg {f : FuncId} {caps : List Operand} {l : List IV} (hx : Evs σ caps l) : OpN C ⟨d,.makeFunc (.func f) #[] caps.toArray,ty,pos,after,gu⟩ σ (.im (IV.fn f l)) := OpN.pure fun ρ μ a w hl ha => by
 have h5 := hx.at hl (fun x hx => by simp [Op.operands,hx])
 exact ⟨_,by simp [execOp,Instr.makeFunc],oi.2 ⟨_,rfl,h5⟩⟩
def ovr : List SV → Nat → List SV → List SV
 | l,_,[] => l
 | l,o,c :: cs => ovr (l.set o c) (o + 1) cs
theorem foldl_set {ρ : Nms} {μ : Mem} (off : Nat) : ∀ (vs : List Value) (k : Nat) (us : Array Value) (l cs : List SV),SV.Rs ρ μ l us.toList → SV.Rs ρ μ cs vs → One us.toList → One vs →
 SV.Rs ρ μ (ovr l (off + k) cs) ((vs.zipIdx k).foldl (fun us p => us.setIfInBounds (off + p.2) p.1) us).toList ∧ One ((vs.zipIdx k).foldl (fun us p => us.setIfInBounds (off + p.2) p.1) us).toList
 | [],k,us,l,cs,h,hc,o1,o2 => by
  cases cs with
  | nil => exact ⟨h,o1⟩
  | cons c cs => unfold SV.Rs at hc;obtain ⟨v,vs',e,_⟩ := hc;cases e
 | v :: vs,k,us,l,cs,h,hc,o1,o2 => by
  cases cs with
  | nil => unfold SV.Rs at hc;cases hc
  | cons c cs =>
   unfold SV.Rs at hc
   obtain ⟨v',vs',e,h1,h2⟩ := hc
   injection e with e1 e2
   subst e1 e2
   simp only [List.zipIdx_cons,List.foldl_cons]
   unfold ovr
   refine foldl_set off vs (k + 1) _ _ _ ?_ h2 ?_ (fun u hu => o2 u (List.mem_cons_of_mem _ hu))
   ·rw [Array.toList_setIfInBounds];exact SV.Rs.set h1 h (off + k)
   ·rw [Array.toList_setIfInBounds]
    intro u hu
    rcases List.mem_or_eq_of_mem_set hu with hu | hu
    ·exact o1 u hu
    ·subst hu;exact o2 u List.mem_cons_self
inductive Parts (σ : Env) (place : Nat → Option (Nat × Nat)) : List SV → List (Nat × Operand) → List SV → Prop
 | nil {l : List SV} : Parts σ place l [] l
 | cons {l cs out : List SV} {i off n : Nat} {x : Operand} {s : SV} {rest : List (Nat × Operand)} (hp : place i = some (off,n)) (hx : Ev σ x s) (hc : Cs s cs) (hn : Nat.beq cs.length n = true) (hle : Nat.ble (off + n) l.length = true) (t : Parts σ place (ovr l off cs) rest out) : Parts σ place l ((i,x) :: rest) out
theorem Parts.fill {place : Nat → Option (Nat × Nat)} {ρ : Nms} {μ : Mem} {a : Act} : ∀ {l out : List SV} {ps : List (Nat × Operand)},Parts σ place l ps out → (∀ p ∈ ps,∀ s,Ev σ p.2 s → SV.R ρ μ s (a.eval p.2)) → ∀ {us : Array Value},SV.Rs ρ μ l us.toList → One us.toList →
 ∃ us',Instr.fill place us (ps.map fun p => (p.1,a.eval p.2)) = some us' ∧ SV.Rs ρ μ out us'.toList ∧ One us'.toList := by
 intro l out ps h
 induction h with
 | nil => intro _ us h1 h2;exact ⟨us,rfl,h1,h2⟩
 | @cons l cs out i off n x s rest hp hx hc hn hle t ih =>
  intro hev us h1 h2
  obtain ⟨h3,h4⟩ := hc ρ μ _ (hev (i,x) List.mem_cons_self s hx)
  have hlen : (a.eval x).cells.size = n := by
   have := h3.length
   rw [Nat.eq_of_beq_eq_true hn] at this
   simpa using this
  have husz : us.size = l.length := by simpa using h1.length
  have hle' := Nat.le_of_ble_eq_true hle
  have h5 := foldl_set off (a.eval x).cells.toList 0 us l cs h1 h3 h2 h4
  obtain ⟨us',h6,h7⟩ := ih (fun p hp => hev p (List.mem_cons_of_mem _ hp)) h5.1 h5.2
  refine ⟨us',?_,h7⟩
  simp only [List.map_cons,Instr.fill,hp]
  rw [if_neg (by simp only [hlen,husz,Bool.or_eq_true,decide_eq_true_eq,ne_eq,not_true_eq_false,false_or];omega)]
  rw [← h6]
  congr 1
  have : (a.eval x).cells.zipIdx = ((a.eval x).cells.toList.zipIdx 0).toArray := by
   apply Array.ext'
   simp
  rw [this]
  simp
def zeroS (u : Value) : List SV := u.cells.toList.map fun c => .im (IV.val c)
theorem zeroS_R {ρ : Nms} {μ : Mem} : ∀ (l : List Value),SV.Rs ρ μ (l.map fun c => .im (IV.val c)) l
 | [] => by unfold SV.Rs;rfl
 | v :: l => by simp only [List.map_cons];unfold SV.Rs;exact ⟨v,l,rfl,oi.2 rfl,zeroS_R l⟩
def oneB (l : List Value) : Bool := l.all (·.oneCell')
theorem qI {l : List Value} (h : oneB l = true) : One l := fun u hu => List.all_eq_true.1 h u hu
def flds (C : Cfg) (fs : Array Field) (i : Nat) : Option (Nat × Nat) := match fs[i]? with
 | some fd => match C.tt fd.type with
  | some df => some (fd.offset,df.size)
  | none => none
 | none => none
def allF (C : Cfg) (fs : Array Field) : Bool := fs.toList.all fun fd => (C.tt fd.type).isSome
theorem run_places {fs : Array Field} (h : allF C fs = true) (w : World) : ∃ pl : Array (Nat × Nat),(fs.mapM (m := Sem) fun (f : Field) => do pure (f.offset,← sizeOf f.type)).run C.P w = .ok pl w ∧ ∀ i : Nat,pl[i]? = flds C fs i := by
 have key : ∀ (l : List Field),(∀ fd ∈ l,(C.tt fd.type).isSome = true) → ∀ w : World,∃ pl : List (Nat × Nat),(l.mapM (m := Sem) fun (f : Field) => do pure (f.offset,← sizeOf f.type)).run C.P w = .ok pl w ∧ ∀ i : Nat,pl[i]? = match (l[i]? : Option Field) with
  | some fd => match C.tt fd.type with
   | some df => some (fd.offset,df.size)
   | none => none
  | none => none := by
  intro l
  induction l with
  | nil => intro _ w;exact ⟨[],by simp,by simp⟩
  | cons fd l ih =>
   intro h w
   obtain ⟨pl,h1,h2⟩ := ih (fun x hx => h x (List.mem_cons_of_mem _ hx)) w
   have h3 := h fd List.mem_cons_self
   cases h4 : C.tt fd.type with
   | none => rw [h4] at h3;cases h3
   | some df =>
    refine ⟨(fd.offset,df.size) :: pl,?_,?_⟩
    ·simp only [List.mapM_cons,Sem.run_bind,Sem.run_pure,(C.ok _ _ h4).size w,Result.andThen_ok,h1]
    ·intro i
     cases i with
     | zero => simp [h4]
     | succ i => simpa using h2 i
 obtain ⟨pl,h1,h2⟩ := key fs.toList (fun fd hfd => List.all_eq_true.1 h fd hfd) w
 refine ⟨pl.toArray,?_,fun i => ?_⟩
 ·rw [← Array.toArray_toList (xs := fs),List.mapM_toArray]
  simp at h1 ⊢
  rw [h1];rfl
 ·unfold flds
  rw [List.getElem?_toArray,h2 i]
  simp
theorem yC {t : TypeId} {dt : TyInf} {fs : Array Field} {ps : List (Nat × Operand)} {out : List SV} (ht : C.tt t = some dt) (hu : dt.und = .struct fs) (hf : allF C fs = true) (h1 : oneB dt.zero.cells.toList = true) (hp : Parts σ (flds C fs) (zeroS dt.zero) ps out) :
 OpN C ⟨d,.build t ps.toArray,ty,pos,after,gu⟩ σ (.agg out) := OpN.pure fun ρ μ a w hl ha => by
 have hT := C.ok _ _ ht
 obtain ⟨pl,h2,h3⟩ := run_places hf w
 have hev : ∀ p ∈ ps,∀ s,Ev σ p.2 s → SV.R ρ μ s (a.eval p.2) := fun p hp s hs => hs.at hl (by simp [Op.operands];exact ⟨p.1,hp⟩)
 obtain ⟨us,h4,h5,h6⟩ := hp.fill (ρ := ρ) (μ := μ) (a := a) hev (zeroS_R _) (qI h1)
 have h7 : (fun x : Nat => pl[x]?) = flds C fs := funext h3
 refine ⟨.agg us,?_,by unfold SV.R;exact ⟨us.toList,by simp,h5,h6⟩⟩
 have h8 := hT.und w
 rw [hu] at h8
 simp only [execOp,Instr.build,Sem.run_bind,hT.zero w,Result.andThen_ok,h8,h2,h7]
 simp [h4]
end
def hget : List Ent → Nat → Option HObj
 | [],_ => none
 | (i,o) :: H,n => match Nat.beq i n with
  | true => some o
  | false => hget H n
def hset : List Ent → Nat → HObj → List Ent
 | [],_,_ => []
 | (i,o) :: H,n,o' => match Nat.beq i n with
  | true => (n,o') :: hset H n o'
  | false => (i,o) :: hset H n o'
def hdel : List Ent → Nat → List Ent
 | [],_ => []
 | (i,o) :: H,n => match Nat.beq i n with
  | true => hdel H n
  | false => (i,o) :: hdel H n
theorem om : ∀ {H : List Ent} {n : Nat} {o : HObj},hget H n = some o → (n,o) ∈ H
 | (i,o') :: H,n,o,h => by
  simp only [hget] at h
  cases hb : Nat.beq i n with
  | true => rw [hb] at h;injection h with h;subst h;rw [Nat.eq_of_beq_eq_true hb];exact List.mem_cons_self
  | false => rw [hb] at h;exact List.mem_cons_of_mem _ (om h)
theorem uK : ∀ {H : List Ent} {n : Nat} {o : HObj} {e : Ent},e ∈ hset H n o → e = (n,o) ∨ (e ∈ H ∧ e.1 ≠ n)
 | (i,o') :: H,n,o,e,h => by
  simp only [hset] at h
  cases hb : Nat.beq i n with
  | true =>
   rw [hb] at h
   rcases List.mem_cons.1 h with h | h
   ·exact .inl h
   ·exact (uK h).imp id fun ⟨h1,h2⟩ => ⟨List.mem_cons_of_mem _ h1,h2⟩
  | false =>
   rw [hb] at h
   rcases List.mem_cons.1 h with h | h
   ·subst h;exact .inr ⟨List.mem_cons_self,Nat.ne_of_beq_eq_false hb⟩
   ·exact (uK h).imp id fun ⟨h1,h2⟩ => ⟨List.mem_cons_of_mem _ h1,h2⟩
theorem ov : ∀ {H : List Ent} {n : Nat} {e : Ent},e ∈ hdel H n → e ∈ H ∧ e.1 ≠ n
 | (i,o') :: H,n,e,h => by
  simp only [hdel] at h
  cases hb : Nat.beq i n with
  | true =>
   rw [hb] at h
   exact ⟨List.mem_cons_of_mem _ (ov h).1,(ov h).2⟩
  | false =>
   rw [hb] at h
   rcases List.mem_cons.1 h with h | h
   ·subst h;exact ⟨List.mem_cons_self,Nat.ne_of_beq_eq_false hb⟩
   ·exact ⟨List.mem_cons_of_mem _ (ov h).1,(ov h).2⟩
structure Turned (w w' : World) (g : Option Nat) : Prop where
 os : w'.os = w.os
 tape : w'.tape = w.tape
 output : w'.output = w.output
 size : w.heap.size ≤ w'.heap.size
 block : ∀ k,k < w.heap.size → some k ≠ g → w'.heap[k]? = w.heap[k]?
theorem Agr.turned {μ : Mem} {w w' : World} {g : Option Nat} (h : Agr μ w) (ht : Turned w w' g) (hg : ∀ k,g = some k → μ k = none) : Agr μ w' := fun b cs hb => by
 obtain ⟨t,fz,hh⟩ := h b cs hb
 exact ⟨t,fz,(ht.block b (Array.getElem?_eq_some_iff.1 hh).1 (fun e => by rw [hg b e.symm] at hb;cases hb)).trans hh⟩
theorem um {ρ : Nms} {μ : Mem} {w w' : World} {H : List Ent} (hH : HeapOk ρ μ w H) (ha : Agr μ w) {i : Nat} {o o' : HObj} (hm : (i,o) ∈ H) {gt : Option Nat} (ht : Turned w w' gt) (hgt : ∀ k,gt = some k → eb ρ (i,o) k) (he : EntOk ρ μ w' (i,o')) (hsp : o'.span = o.span) :
 HeapOk ρ μ w' (hset H i o') ∧ EStp ρ H μ w ρ (hset H i o') μ w' := by
 have hg : ∀ k,eb ρ (i,o) k → μ k = none := fun k hk => ((hH.1 _ hm).lt hk).2
 have hold : ∀ e ∈ hset H i o',∃ e0 ∈ H,eb ρ e = eb ρ e0 ∧ e0.1 = e.1 := fun e h => by
  rcases uK h with rfl | ⟨h1,_⟩
  ·refine ⟨(i,o),hm,?_,rfl⟩
   unfold eb;simp only [hsp]
  ·exact ⟨e,h1,rfl,rfl⟩
 refine ⟨⟨fun e h => ?_,fun e h e' h' hne k hk => ?_⟩,⟨ht.os,ht.tape,ht.output,ht.size,fun k hk hno => ht.block k hk (fun e => hno _ hm (hgt k e.symm)),Mem.le.refl _,fun b hb => .inl hb,ha.turned ht (fun k hk => hg k (hgt k hk)),fun e h k hk => ?_⟩⟩
 ·rcases uK h with rfl | ⟨h1,h2⟩
  ·exact he
  ·exact (hH.1 e h1).keep (Nms.le.refl _) (Mem.le.refl _) fun k hk => ⟨ht.block k ((hH.1 e h1).lt hk).1 (fun e1 => hH.2 _ hm _ h1 (fun e2 => h2 e2.symm) k (hgt k e1.symm) hk),((hH.1 e h1).lt hk).2⟩
 ·obtain ⟨e0,h1,h2,h3⟩ := hold e h
  obtain ⟨e0',h1',h2',h3'⟩ := hold e' h'
  rw [h2']
  exact hH.2 e0 h1 e0' h1' (by rw [h3,h3'];exact hne) k (h2 ▸ hk)
 ·obtain ⟨e0,h1,h2,_⟩ := hold e h
  exact .inl ⟨e0,h1,h2 ▸ hk⟩
theorem EStp.same {ρ : Nms} {μ : Mem} {w : World} {H : List Ent} (ha : Agr μ w) : EStp ρ H μ w ρ H μ w := ⟨rfl,rfl,rfl,Nat.le_refl _,fun _ _ _ => rfl,Mem.le.refl _,fun _ h => .inl h,ha,fun e he _ hg => .inl ⟨e,he,hg⟩⟩
section
variable {C : Cfg} {σ : Env} {d : Option Tmp} {ty : TypeId} {pos : String} {after : Array Edge} {gu : Option (Nat × Bool)} {H : List Ent} {fr : Nat}
theorem OpE.read {o : Oper} {s : SV} (h : ∀ ρ μ a w,LookOk ρ μ σ o a → Agr μ w → HeapOk ρ μ w H → ∃ v,(execOp a.eval o).run C.P w = .ok (.value v) w ∧ SV.R ρ μ s v) : OpE C o σ H fr s H fr := fun ρ μ a w hl ha hH _ => by
 obtain ⟨v,h1,h2⟩ := h ρ μ a w hl ha hH
 unfold Oper.wp
 rw [h1]
 exact ⟨v,μ,ρ,rfl,h2,hH,Nms.le.refl _,fun i hi => .inl hi,EStp.same ha⟩
def ldS (dt : TyInf) (l : List SV) : Option SV := match aggB dt.und with
 | true => match Nat.ble dt.size l.length with
  | true => some (.agg (l.take dt.size))
  | false => none
 | false => match l with
  | s :: _ => some s
  | [] => none
theorem Rs_drop {ρ : Nms} {μ : Mem} : ∀ {l : List SV} {vs : List Value} (n : Nat),SV.Rs ρ μ l vs → SV.Rs ρ μ (l.drop n) (vs.drop n)
 | l,vs,0,h => h
 | [],vs,n + 1,h => by unfold SV.Rs at h;subst h;simp [SV.Rs]
 | s :: l,_,n + 1,h => by unfold SV.Rs at h;obtain ⟨v,vs',e,_,h2⟩ := h;subst e;exact Rs_drop n h2
theorem Rs_take {ρ : Nms} {μ : Mem} : ∀ {l : List SV} {vs : List Value} (n : Nat),SV.Rs ρ μ l vs → SV.Rs ρ μ (l.take n) (vs.take n)
 | l,vs,0,h => by simp [SV.Rs]
 | [],vs,n + 1,h => by unfold SV.Rs at h;subst h;simp [SV.Rs]
 | s :: l,_,n + 1,h => by
  unfold SV.Rs at h;obtain ⟨v,vs',e,h1,h2⟩ := h;subst e
  simp only [List.take_succ_cons];unfold SV.Rs;exact ⟨v,_,rfl,h1,Rs_take n h2⟩
theorem j8 {ρ : Nms} {μ : Mem} {w : World} {t bt : TypeId} {dt : TyInf} (ht : TyIs C.P t dt) {cs : List SV} {o g : Nat} {us : Array Value} (hg : w.heap[g]? = some (.cells us bt (0,0))) (hR : SV.Rs ρ μ cs us.toList) (h1 : One us.toList) {s : SV} (hs : ldS dt (cs.drop o) = some s) :
 ∃ v,(Instr.loadAt t (.pointer (some ⟨g,o,none⟩))).run C.P w = .ok v w ∧ SV.R ρ μ s v := by
 have hcell : ∀ j v,us.toList[j]? = some v → w.cell? ⟨g,j,none⟩ = some v := fun j v hj => by simp only [World.cell?,hg];simpa using hj
 have hd := Rs_drop o hR
 unfold ldS at hs
 cases hag : aggB dt.und with
 | true =>
  rw [hag] at hs
  simp only at hs
  cases hb : Nat.ble dt.size (cs.drop o).length with
  | false => rw [hb] at hs;cases hs
  | true =>
   rw [hb] at hs
   injection hs with hs
   subst hs
   have hle := Nat.le_of_ble_eq_true hb
   have hl := hd.length
   have h3 := run_loadCells_list (P := C.P) w ⟨g,o,none⟩ ((us.toList.drop o).take dt.size) (fun j v hj => by
    rw [List.getElem?_take] at hj
    split at hj
    ·rw [List.getElem?_drop] at hj
     have := hcell _ v hj
     by_cases h0 : j = 0 <;> simp [Addr.add,h0] <;> simpa [h0] using this
    ·cases hj)
   rw [List.length_take,Nat.min_eq_left (by rw [hl];exact hle)] at h3
   refine ⟨.agg ((us.toList.drop o).take dt.size).toArray,?_,?_⟩
   ·simp only [Instr.loadAt,Instr.sureAddr,loadVar,Sem.run_bind,Sem.run_pure,Result.andThen_ok,ht.agg w,hag,if_true,ht.size w,h3]
   ·unfold SV.R
    exact ⟨_,rfl,Rs_take _ hd,fun u hu => h1 u (List.mem_of_mem_drop (List.mem_of_mem_take hu))⟩
 | false =>
  rw [hag] at hs
  simp only at hs
  cases hl : cs.drop o with
  | nil => rw [hl] at hs;cases hs
  | cons s0 l =>
   rw [hl] at hs hd
   injection hs with hs
   subst hs
   obtain ⟨v,h2,h3⟩ := hd.get (j := 0) rfl
   rw [List.getElem?_drop] at h2
   have h4 := hcell _ v h2
   refine ⟨v,?_,h3⟩
   simp only [Instr.loadAt,Instr.sureAddr,loadVar,Sem.run_bind,Sem.run_pure,Result.andThen_ok,ht.agg w,hag,if_false,Bool.false_eq_true,run_load]
   rw [show (o + 0) = o from rfl] at h4
   rw [h4]
theorem ope_loadRow {α : Type} {t rt : TypeId} {x : Operand} {dt : TyInf} {i o : Nat} {enc : α → List IV} {xs : List α} {y : α} {s : IV} (ht : C.tt t = some dt) (hag : aggB dt.und = false) (hx : Ev σ x (.off i o)) (hh : hget H i = some (.row rt 1 enc xs)) (hy : xs[o]? = some y) (hs : enc y = [s]) :
 OpE C ⟨d,.load t x,ty,pos,after,gu⟩ σ H fr (.im s) H fr := OpE.read fun ρ μ a w hl ha hH => by
 have h0 := hx.at hl (by simp [Op.operands])
 unfold SV.R at h0
 obtain ⟨g,h1,h2⟩ := h0
 obtain ⟨v,us,h3,h4,h5,h6,h7,h8⟩ := hH.1 _ (om hh)
 rw [h3] at h1
 simp only [Option.bind_some] at h1
 rw [oh h4] at h1
 obtain ⟨u,h9,h10⟩ := h5.get (j := o) (s := s) (by
  have : ∀ (xs : List α) (o : Nat),xs[o]? = some y → (xs.flatMap enc)[o]? = some s := by
   intro xs
   induction xs with
   | nil => intro o h;simp at h
   | cons z zs ih =>
    intro o h
    have hz := h6 z
    match hez : enc z,hz with
    | [c],_ =>
     rw [List.flatMap_cons,hez]
     cases o with
     | zero => simp at h;subst h;rw [hez] at hs;injection hs with hs;subst hs;rfl
     | succ o => simpa using ih o (by simpa using h)
  exact this xs o hy)
 obtain ⟨A,n,c,hv⟩ := ownBlock_blk h1
 have hcell : w.cell? ⟨g,o,none⟩ = some u := by
  rcases h4.2 with ⟨hv0,_⟩ | ⟨g',cap,cur,hv',_,hg',hnc,hcm,hcs,htake⟩
  ·rw [hv0] at h1;cases h1
  ·rw [hv'] at h1
   simp only [Value.ownBlock,Option.some.injEq] at h1
   subst h1
   rw [← htake,List.getElem?_take] at h9
   split at h9
   ·simp only [World.cell?,hg'];simpa using h9
   ·cases h9
 refine ⟨u,?_,oi.2 h10⟩
 simp only [execOp,h2,Instr.loadAt,Instr.sureAddr,loadVar,Sem.run_bind,Sem.run_pure,Result.andThen_ok,(C.ok _ _ ht).agg w,hag,if_false,Bool.false_eq_true,run_load,hcell]
theorem OpR.read {o : Oper} {s : SV} (h : ∀ ρ μ a w,LookOk ρ μ σ o a → Agr μ w → HeapOk ρ μ w H → ∃ v,(execOp a.eval o).run C.P w = .ok (.value v) w ∧ SV.R ρ μ s v) : OpR C o σ H s := fun ρ μ a w hl ha hH => by
 obtain ⟨v,h1,h2⟩ := h ρ μ a w hl ha hH
 unfold Oper.wp
 rw [h1]
 exact ⟨v,μ,rfl,h2,Stp.refl ha⟩
theorem oK {t bt : TypeId} {x : Operand} {dt : TyInf} {i o : Nat} {cs : List SV} {s : SV} (ht : C.tt t = some dt) (hx : Ev σ x (.off i o)) (hh : hget H i = some (.blk bt cs)) (hs : ldS dt (cs.drop o) = some s) : OpR C ⟨d,.load t x,ty,pos,after,gu⟩ σ H s := OpR.read fun ρ μ a w hl ha hH => by
 have h0 := hx.at hl (by simp [Op.operands])
 unfold SV.R at h0
 obtain ⟨g,h1,h2⟩ := h0
 obtain ⟨g',us,h3,h4,h5,h6,h7⟩ := hH.1 _ (om hh)
 rw [h3] at h1
 simp only [Option.bind_some,blk,Option.some.injEq] at h1
 subst h1
 obtain ⟨v,h8,h9⟩ := j8 (C.ok _ _ ht) h4 h5 h7 hs
 refine ⟨v,?_,h9⟩
 simp only [execOp,Sem.run_bind,h2,h8,Result.andThen_ok,Sem.run_pure]
theorem oR {α : Type} {t rt : TypeId} {x : Operand} {dt : TyInf} {i o : Nat} {enc : α → List IV} {xs : List α} {y : α} {s : IV} (ht : C.tt t = some dt) (hag : aggB dt.und = false) (hx : Ev σ x (.off i o)) (hh : hget H i = some (.row rt 1 enc xs)) (hy : xs[o]? = some y) (hs : enc y = [s]) :
 OpR C ⟨d,.load t x,ty,pos,after,gu⟩ σ H (.im s) := OpR.read fun ρ μ a w hl ha hH => by
 have h0 := hx.at hl (by simp [Op.operands])
 unfold SV.R at h0
 obtain ⟨g,h1,h2⟩ := h0
 obtain ⟨v,us,h3,h4,h5,h6,h7,h8⟩ := hH.1 _ (om hh)
 rw [h3] at h1
 simp only [Option.bind_some] at h1
 rw [oh h4] at h1
 obtain ⟨u,h9,h10⟩ := h5.get (j := o) (s := s) (by
  have : ∀ (xs : List α) (o : Nat),xs[o]? = some y → (xs.flatMap enc)[o]? = some s := by
   intro xs
   induction xs with
   | nil => intro o h;simp at h
   | cons z zs ih =>
    intro o h
    have hz := h6 z
    match hez : enc z,hz with
    | [c],_ =>
     rw [List.flatMap_cons,hez]
     cases o with
     | zero => simp at h;subst h;rw [hez] at hs;injection hs with hs;subst hs;rfl
     | succ o => simpa using ih o (by simpa using h)
  exact this xs o hy)
 obtain ⟨A,n,c,hv⟩ := ownBlock_blk h1
 have hcell : w.cell? ⟨g,o,none⟩ = some u := by
  rcases h4.2 with ⟨hv0,_⟩ | ⟨g',cap,cur,hv',_,hg',hnc,hcm,hcs,htake⟩
  ·rw [hv0] at h1;cases h1
  ·rw [hv'] at h1
   simp only [Value.ownBlock,Option.some.injEq] at h1
   subst h1
   rw [← htake,List.getElem?_take] at h9
   split at h9
   ·simp only [World.cell?,hg'];simpa using h9
   ·cases h9
 refine ⟨u,?_,oi.2 h10⟩
 simp only [execOp,h2,Instr.loadAt,Instr.sureAddr,loadVar,Sem.run_bind,Sem.run_pure,Result.andThen_ok,(C.ok _ _ ht).agg w,hag,if_false,Bool.false_eq_true,run_load,hcell]
theorem ovr_list : ∀ {ρ : Nms} {μ : Mem} (cs l : List SV) (vs us : List Value) (o : Nat),SV.Rs ρ μ l us → SV.Rs ρ μ cs vs → o + vs.length ≤ us.length → SV.Rs ρ μ (ovr l o cs) (us.take o ++ vs ++ us.drop (o + vs.length))
 | ρ,μ,[],l,vs,us,o,h,hc,hl => by
  unfold SV.Rs at hc;subst hc
  simpa [ovr] using h
 | ρ,μ,c :: cs,l,vs,us,o,h,hc,hl => by
  unfold SV.Rs at hc
  obtain ⟨v,vs',e,h1,h2⟩ := hc
  subst e
  unfold ovr
  have h3 := ovr_list cs (l.set o c) vs' (us.set o v) (o + 1) (SV.Rs.set h1 h o) h2 (by simp at hl ⊢;omega)
  simp only [List.length_cons] at hl
  have e1 : (us.set o v).take (o + 1) = us.take o ++ [v] := by
   rw [List.take_set,List.take_succ_eq_append_getElem (by omega)]
   rw [List.set_append_right _ _ (by simp;omega)]
   simp [Nat.min_eq_left (show o ≤ us.length by omega)]
  have e2 : (us.set o v).drop (o + 1 + vs'.length) = us.drop (o + 1 + vs'.length) := List.drop_set_of_lt (by omega)
  rw [e1,e2] at h3
  have e3 : o + (v :: vs').length = o + 1 + vs'.length := by simp;omega
  rw [e3]
  simpa using h3
theorem oz {t bt : TypeId} {x y : Operand} {dt : TyInf} {i o : Nat} {cs l : List SV} {s : SV} (ht : C.tt t = some dt) (hx : Ev σ x (.off i o)) (hy : Ev σ y s) (hc : Cs s l) (hn : Nat.beq l.length dt.size = true) (hh : hget H i = some (.blk bt cs)) (hle : Nat.ble (o + l.length) cs.length = true) :
 OpE C ⟨none,.store t x y,ty,pos,after,gu⟩ σ H fr (.im IV.any) (hset H i (.blk bt (ovr cs o l))) fr := fun ρ μ a w hl ha hH _ => by
 have h0 := hx.at hl (by simp [Op.operands])
 unfold SV.R at h0
 obtain ⟨g,h1,h2⟩ := h0
 have hm := om hh
 obtain ⟨g',us,h3,h4,h5,h6,h7⟩ := hH.1 _ hm
 have hebg : eb ρ (i,HObj.blk bt cs) g' := yh (by simp [h3,blk])
 rw [h3] at h1
 simp only [Option.bind_some,blk,Option.some.injEq] at h1
 subst h1
 obtain ⟨h8,h9⟩ := hc ρ μ _ (hy.at hl (by simp [Op.operands]))
 have hlen : (a.eval y).cells.toList.length = l.length := h8.length
 have husz : us.toList.length = cs.length := h5.length
 have hle' := Nat.le_of_ble_eq_true hle
 have hsz : (a.eval y).cells.size = dt.size := by rw [← Nat.eq_of_beq_eq_true hn,← hlen];simp
 have hst := run_storeCells_at (P := C.P) g' o bt (a.eval y).cells.toList 0 us w h4 (by simp only [Nat.add_zero,hlen];simp at husz;omega) h9
 simp only [Nat.add_zero] at hst
 have hrun : (execOp a.eval ⟨none,.store t x y,ty,pos,after,gu⟩).run C.P w = .ok .skip (w.setRow g' (us.toList.take o ++ (a.eval y).cells.toList ++ us.toList.drop (o + (a.eval y).cells.toList.length)).toArray) := by
  simp only [execOp,Instr.storeAt,h2,Instr.sureAddr,Sem.run_bind,Sem.run_pure,Result.andThen_ok,storeVar,(C.ok _ _ ht).size w,hsz,ne_eq,not_true_eq_false,if_false]
  rw [hst]
  rfl
 have hturn : Turned w (w.setRow g' (us.toList.take o ++ (a.eval y).cells.toList ++ us.toList.drop (o + (a.eval y).cells.toList.length)).toArray) (some g') := by
  exact ⟨rfl,rfl,rfl,by simp,fun k _ hk => setRow_other w g' k _ (fun e => hk (by rw [e]))⟩
 have hnew : EntOk ρ μ (w.setRow g' (us.toList.take o ++ (a.eval y).cells.toList ++ us.toList.drop (o + (a.eval y).cells.toList.length)).toArray) (i,HObj.blk bt (ovr cs o l)) :=
  ⟨g',_,h3,setRow_heap w g' us _ bt _ h4,by
   have := ovr_list l cs (a.eval y).cells.toList us.toList o h5 h8 (by omega)
   simpa using this,h6,fun u hu => by
   simp only [List.append_assoc,List.mem_append] at hu
   rcases hu with hu | hu | hu
   ·exact h7 u (List.mem_of_mem_take hu)
   ·exact h9 u hu
   ·exact h7 u (List.mem_of_mem_drop hu)⟩
 obtain ⟨k1,k2⟩ := um hH ha hm hturn (fun k hk => by injection hk with hk;rw [← hk];exact hebg) hnew rfl
 unfold Oper.wp
 rw [hrun]
 exact ⟨undef,μ,ρ,rfl,oi.2 trivial,k1,Nms.le.refl _,fun j hj => .inl hj,k2⟩
theorem flat_set {α : Type} {enc : α → List IV} (hk : ∀ x,(enc x).length = 1) {y : α} {s : IV} (hs : enc y = [s]) : ∀ (xs : List α) (o : Nat),((xs.set o y).flatMap enc) = (xs.flatMap enc).set o s
 | [],o => by simp
 | z :: zs,o => by
  have hz := hk z
  match hez : enc z,hz with
  | [c],_ =>
   cases o with
   | zero => simp [hez,hs]
   | succ o => simp [hez,flat_set hk hs zs o]
theorem IVs_set {μ : Mem} {s : IV} {v : Value} (h1 : s.p μ v) : ∀ {l : List IV} {vs : List Value},IVs μ l vs → ∀ (j : Nat),IVs μ (l.set j s) (vs.set j v)
 | [],_,h,j => by cases h;simp [IVs]
 | s0 :: l,_,⟨u,vs',e,hu,h2⟩,0 => by subst e;exact ⟨v,vs',rfl,h1,h2⟩
 | s0 :: l,_,⟨u,vs',e,hu,h2⟩,j + 1 => by subst e;exact ⟨u,_,rfl,hu,IVs_set h1 h2 j⟩
def OneI (s : IV) : Prop := ∀ μ v,s.p μ v → v.oneCell' = true
theorem yG {u : Value} (h : u.oneCell' = true) : OneI (IV.val u) := fun _ v hv => by rw [show v = u from hv];exact h
theorem y4 {α : Type} {t rt : TypeId} {x y : Operand} {dt : TyInf} {i o : Nat} {enc : α → List IV} {xs : List α} {z : α} {s : IV} (ht : C.tt t = some dt) (hn : Nat.beq 1 dt.size = true) (hx : Ev σ x (.off i o)) (hy : Ev σ y (.im s)) (hc : OneI s) (hh : hget H i = some (.row rt 1 enc xs)) (hs : enc z = [s]) (hle : o < xs.length) :
 OpE C ⟨none,.store t x y,ty,pos,after,gu⟩ σ H fr (.im IV.any) (hset H i (.row rt 1 enc (xs.set o z))) fr := fun ρ μ a w hl ha hH _ => by
 have h0 := hx.at hl (by simp [Op.operands])
 unfold SV.R at h0
 obtain ⟨g,h1,h2⟩ := h0
 have hm := om hh
 obtain ⟨v,us,h3,h4,h5,h6,h7,h8⟩ := hH.1 _ hm
 have hebg : (ρ i).bind blk = v.ownBlock := by simp only [h3,Option.bind_some];exact oh h4
 rw [h3] at h1
 simp only [Option.bind_some] at h1
 rw [oh h4] at h1
 have h9 := hy.im hl (by simp [Op.operands])
 have hone := hc _ _ h9
 have hcells : (a.eval y).cells = #[a.eval y] := by
  revert hone
  cases a.eval y <;> intro hone <;> first | rfl | cases hone
 rcases h4.2 with ⟨hv0,_⟩ | ⟨g',cap,cur,hv',_,hg',hnc,hcm,hcs,htake⟩
 ·rw [hv0] at h1;cases h1
 ·subst hv'
  simp only [Value.ownBlock,Option.some.injEq] at h1
  subst h1
  have hlt : o < cur.size := by omega
  have hcell : w.cell? ⟨g',o,none⟩ = some cur[o] := by simp [World.cell?,hg',hlt]
  have hfro : w.frozen? ⟨g',o,none⟩ = false := by simp [World.frozen?,hg']
  have hadd : (⟨g',o,none⟩ : Addr).add 0 = ⟨g',o,none⟩ := by simp [Addr.add]
  have hst := run_store C.P w ⟨g',o,none⟩ (a.eval y) .plain hone
  rw [hcell] at hst
  simp only [hfro,Bool.false_eq_true,if_false] at hst
  have hrun : (execOp a.eval ⟨none,.store t x y,ty,pos,after,gu⟩).run C.P w = .ok .skip (w.setCell ⟨g',o,none⟩ (a.eval y)) := by
   simp only [execOp,Instr.storeAt,h2,Instr.sureAddr,Sem.run_bind,Sem.run_pure,Result.andThen_ok,storeVar,(C.ok _ _ ht).size w,hcells,← Nat.eq_of_beq_eq_true hn]
   simp [storeCells,hadd,hst]
  have hst2 := World.ownsRow.stored h4 o (a.eval y)
  have hturn : Turned w (w.setCell ⟨g',o,none⟩ (a.eval y)) ((ρ i).bind blk) := by
   rw [hebg]
   exact ⟨hst2.2.os,hst2.2.tape,hst2.2.output,hst2.2.size,hst2.2.block⟩
  have hnew : EntOk ρ μ (w.setCell ⟨g',o,none⟩ (a.eval y)) (i,HObj.row rt 1 enc (xs.set o z)) :=
   ⟨_,us.set o (a.eval y),h3,by rw [List.length_set];exact hst2.1,by unfold IvFlat;rw [flat_set h6 hs];exact IVs_set h9 h5 o,h6,h7,fun u hu => by
    rcases List.mem_or_eq_of_mem_set hu with hu | hu
    ·exact h8 u hu
    ·subst hu;exact hone⟩
  obtain ⟨k1,k2⟩ := um hH ha hm hturn (fun k hk => yh hk) hnew rfl
  unfold Oper.wp
  rw [hrun]
  exact ⟨undef,μ,ρ,rfl,oi.2 trivial,k1,Nms.le.refl _,fun j hj => .inl hj,k2⟩
theorem opa_alloc {t : TypeId} {dt : TyInf} (ht : C.tt t = some dt) (h1 : oneB dt.zero.cells.toList = true) : OpA C ⟨d,.alloc t,ty,pos,after,gu⟩ σ fr (.off fr 0) (.blk t (zeroS dt.zero)) := OpA.of rfl fun ρ μ a w hl ha hf => by
 have hT := C.ok _ _ ht
 have hrun : (execOp a.eval ⟨d,.alloc t,ty,pos,after,gu⟩).run C.P w = .ok (.value (.pointer (some ⟨w.heap.size,0,none⟩))) (w.alloc (.cells dt.zero.cells t)) := by
  simp only [execOp,Instr.alloc,Sem.run_bind,hT.zero w,Result.andThen_ok,vu,Sem.run_pure]
 have hno : μ w.heap.size = none := by
  cases e : μ w.heap.size with
  | none => rfl
  | some c => exact absurd (ha.lt (b := w.heap.size) (by rw [e];simp)) (Nat.lt_irrefl _)
 unfold Oper.wp
 rw [hrun]
 refine ⟨_,μ,rfl,?_,⟨w.heap.size,_,oY _ _ _,heap_alloc_new w _,zeroS_R _,hno,qI h1⟩,fun g hg => ?_,Stp.alloc ha _⟩
 ·unfold SV.R;exact ⟨w.heap.size,by rw [oY];rfl,rfl⟩
 ·simp only [blk,Option.some.injEq] at hg;omega
end
theorem IVs.append {μ : Mem} : ∀ {l l' : List IV} {vs vs' : List Value},IVs μ l vs → IVs μ l' vs' → IVs μ (l ++ l') (vs ++ vs')
 | [],_,_,_,h,h' => by cases h;exact h'
 | _ :: _,_,_,_,⟨v,vs2,e,h1,h2⟩,h' => by subst e;exact ⟨v,_,rfl,h1,IVs.append h2 h'⟩
theorem One.append {a b : List Value} (h : One a) (k : One b) : One (a ++ b) := fun u hu => (List.mem_append.1 hu).elim (h u) (k u)
theorem view_vals {α : Type} {μ : Mem} {w : World} (ha : Agr μ w) {k : Nat} {enc : α → List IV} (hk : ∀ x,(enc x).length = k) {b : Nat} : ∀ {xs : List α} {o : Nat},(∀ i x,xs[i]? = some x → Cells μ b (o + i * k) (enc x)) →
 ∃ us,IVs μ (xs.flatMap enc) us ∧ One us ∧ us.length = xs.length * k ∧ ∀ j u,us[j]? = some u → w.cell? ⟨b,o + j,none⟩ = some u
 | [],o,_ => ⟨[],rfl,fun u h => by simp at h,by simp,fun j u h => by simp at h⟩
 | x :: xs,o,h => by
  have h0 := h 0 x rfl
  rw [Nat.zero_mul,Nat.add_zero] at h0
  obtain ⟨vs,h1,h2,h3⟩ := h0.vals ha
  obtain ⟨us,h4,h5,h6,h7⟩ := view_vals ha hk (xs := xs) (o := o + k) (fun i y hy => by
   have := h (i + 1) y (by simpa using hy)
   rw [show o + k + i * k = o + (i + 1) * k by rw [Nat.add_mul];omega];exact this)
  have hl : vs.length = k := by rw [h1.length,hk]
  refine ⟨vs ++ us,by rw [List.flatMap_cons];exact h1.append h4,h3.append h5,by rw [List.length_append,hl,h6,List.length_cons,Nat.add_mul];omega,fun j u hj => ?_⟩
  rcases Nat.lt_or_ge j k with hlt | hge
  ·rw [List.getElem?_append_left (by omega)] at hj;exact h2 j u hj
  ·rw [List.getElem?_append_right (by omega),hl] at hj
   have := h7 _ u hj
   rw [show o + k + (j - k) = o + j by omega] at this;exact this
theorem run_app_none {P : Program} (w : World) (t ty e : TypeId) (de : TyInf) (ht : P.underlying t = some (.slice e)) (hT : TyIs P e de) (v : Value) (n : Nat) (xs : List Value) (hown : w.ownsRow 0 e de.size v n xs) (c : Nat) :
 (Builtin.append_ #[t,t] ty #[v,.slice none 0 c]).run P w = .ok v w := by
 obtain ⟨_,i,hi,_,hs,_⟩ := hT
 rcases hown.2 with ⟨rfl,rfl⟩ | ⟨g,cap,cur,rfl,_,_,hnc,_⟩
 ·simp [Builtin.append_,run_underlying ht,sizeOf,typeInfo,hi,Builtin.lenOf,Builtin.firstCells]
 ·simp [Builtin.append_,run_underlying ht,sizeOf,typeInfo,hi,Builtin.lenOf,Builtin.firstCells,hnc,storeCells]
theorem run_app {P : Program} (w : World) (t ty e : TypeId) (de : TyInf) (ht : P.underlying t = some (.slice e)) (hT : TyIs P e de) (hzs : de.zero.cells.size = de.size) (hsz : 0 < de.size) (v : Value) (n : Nat) (xs : List Value) (hown : w.ownsRow 0 e de.size v n xs)
 (A : Option Addr) (m c : Nat) (news : List Value) (hl : news.length = m * de.size) (hA : m = 0 ∨ ∃ ad,A = some ad ∧ ∀ j u,news[j]? = some u → w.cell? (ad.add j) = some u) (h1 : One news) (h63 : n + m ≤ maxLen) (hbytes : (n + m) * de.bytes ≤ 140737488355328) :
 ∃ v' w',(Builtin.append_ #[t,t] ty #[v,.slice A m c]).run P w = .ok v' w' ∧ w'.ownsRow 0 e de.size v' (n + m) (xs ++ news) ∧ w.grownBy w' v.ownBlock ∧ (v'.ownBlock = v.ownBlock ∨ v'.ownBlock = some w.heap.size) := by
 have hT0 := hT
 obtain ⟨_,i,hi,hz,hs,hb⟩ := hT
 by_cases hm : m = 0
 ·subst hm
  have hn : news = [] := List.eq_nil_of_length_eq_zero (by simpa using hl)
  subst hn
  cases A with
  | none => exact ⟨v,w,run_app_none w t ty e de ht hT0 v n xs hown c,by simpa using hown,⟨rfl,rfl,rfl,Nat.le_refl _,fun _ _ _ => rfl⟩,.inl rfl⟩
  | some a =>
   obtain ⟨v',w',hr,h2,h3,_⟩ := run_append_own (P := P) w 0 t ty e i de.zero de.size de.bytes ht hi hz hs hb hzs hsz v n xs hown a 0 c [] hl (fun j u h => by simp at h) h1 h63 hbytes (Nat.zero_le _)
   refine ⟨v',w',hr,h2,h3,.inl ?_⟩
   rcases hown.2 with ⟨rfl,rfl⟩ | ⟨g,cap,cur,rfl,_,hg,hnc,_,hcs,_⟩
   ·have : (Builtin.append_ #[t,t] ty #[.slice none 0 0,.slice (some a) 0 c]).run P w = .ok (.slice none 0 0) w := by
     simp [Builtin.append_,run_underlying ht,sizeOf,typeInfo,hi,Builtin.lenOf,Builtin.firstCells,loadCells,loadCellsFrom]
    rw [this] at hr;injection hr with hr;subst hr;rfl
   ·have := run_append_room (P := P) w t ty e i ht hi g n cap cur hg a 0 c [] (by simp) (fun j u h => by simp at h) h1 (by omega) (by rw [hcs,hs];simp only [List.length_nil,Nat.add_zero];exact Nat.mul_le_mul_right _ hnc)
    rw [this] at hr;injection hr with hr;subst hr;rfl
 ·obtain ⟨a,rfl,hnews⟩ := hA.resolve_left hm
  obtain ⟨v',w',hr,h2,h3,_⟩ := run_append_own (P := P) w 0 t ty e i de.zero de.size de.bytes ht hi hz hs hb hzs hsz v n xs hown a m c news hl hnews h1 h63 hbytes (Nat.zero_le _)
  refine ⟨v',w',hr,h2,h3,?_⟩
  rw [← hb] at hbytes
  have hsmall : n + m ≤ 9223372036854775807 := by simp only [maxLen] at h63;omega
  rcases hown.2 with ⟨rfl,rfl⟩ | ⟨g,cap,cur,rfl,_,hg,hnc,hcm,hcs,htake⟩
  ·have := run_append_nil (P := P) w t ty e i de.zero ht hi hz a m c news (by rw [hs];exact hl) hnews (by omega) (by omega) (by have hb := hbytes;simp only [Nat.zero_add] at hb;omega)
   rw [this] at hr;injection hr with hr;subst hr;exact .inr rfl
  ·by_cases hroom : n + m ≤ cap
   ·have := run_append_room (P := P) w t ty e i ht hi g n cap cur hg a m c news (by rw [hs];exact hl) hnews h1 hroom (by rw [hs,hl,hcs,← Nat.add_mul];exact Nat.mul_le_mul_right _ hroom)
    rw [this] at hr;injection hr with hr;subst hr;exact .inl rfl
   ·have holds : ∀ j u,xs[j]? = some u → w.cell? ((⟨g,0,none⟩ : Addr).add j) = some u := hown.cells (g := g) rfl
    have := run_append_grow (P := P) w t ty e i de.zero ht hi hz ⟨g,0,none⟩ n cap xs (by rw [hs];exact hown.1) holds a m c news (by rw [hs];exact hl) hnews (by omega) (by omega) (growslice_fits (by omega) hbytes)
    rw [this] at hr;injection hr with hr;subst hr;exact .inr rfl
section
variable {C : Cfg} {σ : Env} {d : Option Tmp} {ty : TypeId} {pos : String} {after : Array Edge} {gu : Option (Nat × Bool)} {H : List Ent} {fr : Nat}
theorem heap_new {ρ : Nms} {μ : Mem} {w w' : World} {H : List Ent} (hH : HeapOk ρ μ w H) (ha : Agr μ w) {r : Nat} {o ob : HObj} (hm : (r,o) ∈ H) (hsp : ob.span = 1) {v' : Value} (h0 : ρ fr = none) {gt : Option Nat} (ht : Turned w w' gt) (hgt : ∀ k,gt = some k → eb ρ (r,o) k) (hv : (∀ k,blk v' = some k → eb ρ (r,o) k) ∨ ∀ g,blk v' = some g → w.heap.size ≤ g)
 (he : EntOk (upd ρ fr v') μ w' (fr,ob)) : HeapOk (upd ρ fr v') μ w' ((fr,ob) :: hdel H r) ∧ EStp ρ H μ w (upd ρ fr v') ((fr,ob) :: hdel H r) μ w' := by
 have hle := vv (v := v') h0
 have hg : ∀ k,eb ρ (r,o) k → μ k = none := fun k hk => ((hH.1 _ hm).lt hk).2
 have heb : ∀ g,eb (upd ρ fr v') (fr,ob) g ↔ blk v' = some g := fun g => (uq hsp).trans (by rw [oY];rfl)
 have hold : ∀ e ∈ hdel H r,e ∈ H ∧ e.1 ≠ r ∧ eb (upd ρ fr v') e = eb ρ e := fun e h => ⟨(ov h).1,(ov h).2,eb_le hle (hH.1 e (ov h).1).named⟩
 have key : ∀ e ∈ hdel H r,∀ g,blk v' = some g → ¬ eb (upd ρ fr v') e g := fun e h g hg2 hg3 => by
  obtain ⟨h1,h2,h3⟩ := hold e h
  rw [h3] at hg3
  rcases hv with hv | hv
  ·exact hH.2 _ hm e h1 (fun e1 => h2 e1.symm) g (hv g hg2) hg3
  ·have := hv g hg2;have := ((hH.1 e h1).lt hg3).1;omega
 refine ⟨⟨fun e h => ?_,fun e h e' h' hne g hg1 hg2 => ?_⟩,⟨ht.os,ht.tape,ht.output,ht.size,fun k hk hno => ht.block k hk (fun e => hno _ hm (hgt k e.symm)),Mem.le.refl _,fun b hb => .inl hb,ha.turned ht (fun k hk => hg k (hgt k hk)),fun e h k hk => ?_⟩⟩
 ·rcases List.mem_cons.1 h with rfl | h
  ·exact he
  ·obtain ⟨h1,h2,_⟩ := hold e h
   exact (hH.1 e h1).keep hle (Mem.le.refl _) fun k hk => ⟨ht.block k ((hH.1 e h1).lt hk).1 (fun e1 => hH.2 _ hm _ h1 (fun e2 => h2 e2.symm) k (hgt k e1.symm) hk),((hH.1 e h1).lt hk).2⟩
 ·rcases List.mem_cons.1 h with rfl | h
  ·rcases List.mem_cons.1 h' with rfl | h'
   ·exact hne rfl
   ·exact key e' h' g ((heb g).1 hg1) hg2
  ·rcases List.mem_cons.1 h' with rfl | h'
   ·exact key e h g ((heb g).1 hg2) hg1
   ·obtain ⟨h1,_,h3⟩ := hold e h
    obtain ⟨h1',_,h3'⟩ := hold e' h'
    rw [h3] at hg1
    rw [h3'] at hg2
    exact hH.2 e h1 e' h1' hne g hg1 hg2
 ·rcases List.mem_cons.1 h with rfl | h
  ·have hk := (heb k).1 hk
   rcases hv with hv | hv
   ·exact .inl ⟨_,hm,hv k hk⟩
   ·exact .inr (hv k hk)
  ·obtain ⟨h1,_,h3⟩ := hold e h
   rw [h3] at hk;exact .inl ⟨e,h1,hk⟩
def slT (C : Cfg) (t : TypeId) : Option (TypeId × TyInf) := match C.tt t with
 | some dt => match dt.und with
  | .slice e => match C.tt e with
   | some de => some (e,de)
   | none => none
  | _ => none
 | none => none
theorem jd {t e : TypeId} {de : TyInf} (h : slT C t = some (e,de)) : C.P.underlying t = some (.slice e) ∧ TyIs C.P e de := by
 unfold slT at h
 cases h1 : C.tt t with
 | none => simp [h1] at h
 | some dt =>
  simp only [h1] at h
  have ht := C.ok _ _ h1
  cases h2 : dt.und with
  | slice e' =>
   simp only [h2] at h
   cases h3 : C.tt e' with
   | none => simp [h3] at h
   | some de' =>
    simp only [h3,Option.some.injEq,Prod.mk.injEq] at h
    obtain ⟨rfl,rfl⟩ := h
    exact ⟨by rw [ht.1,h2],C.ok _ _ h3⟩
  | _ => simp [h2] at h
theorem o8 {α β : Type} {t et : TypeId} {x y : Operand} {de : TyInf} {r n k b : Nat} {enc : α → List IV} {enc0 : β → List IV} {xs : List α} {ys0 : List β} (ys : List α) (hT : slT C t = some (et,de)) (hk : de.size = k) (hz : Nat.beq de.zero.cells.size k = true) (hk0 : Nat.blt 0 k = true) (hby : de.bytes = b)
 (hx : Ev σ x (.row r n)) (hy : Ev σ y (.im (IV.view k enc0 ys0))) (hh : hget H r = some (.row et k enc xs)) (hm : ys0.map enc0 = ys.map enc) (hb : (xs.length + ys.length) * b ≤ 140737488355328) (hb0 : Nat.blt 0 b = true) :
 OpE C ⟨d,.call { callee := .builtin .append,args := #[x,y],argTypes := #[t,t] },ty,pos,after,gu⟩ σ H fr (.row fr (xs.length + ys.length)) ((fr,.row et k enc (xs ++ ys)) :: hdel H r) (fr + 1) := fun ρ μ a w hl ha hH hfree => by
 have h0 := hx.at hl (by simp [Op.operands,Call.operands])
 unfold SV.R at h0
 obtain ⟨h1,A0,c0,h2,_⟩ := h0
 have hmem := om hh
 obtain ⟨v,us,h3,h4,h5,h6,h7,h8⟩ := hH.1 _ hmem
 rw [h3] at h1
 injection h1 with h1
 have hebr : (ρ r).bind blk = v.ownBlock := by simp only [h3,Option.bind_some];exact oh h4
 obtain ⟨hu,hTe⟩ := jd hT
 subst hk hby
 have hlys : ys0.length = ys.length := by have := congrArg List.length hm;simpa using this
 obtain ⟨A,c,h9,hc1,hc2,h10⟩ := hy.im hl (by simp [Op.operands,Call.operands])
 have hkey : ∃ news : List Value,IVs μ (ys.flatMap enc) news ∧ One news ∧ news.length = ys.length * de.size ∧ (ys.length = 0 ∨ ∃ ad,A = some ad ∧ ∀ j u,news[j]? = some u → w.cell? (ad.add j) = some u) := by
  rcases h10 with h10 | ⟨b,o,hA,h10⟩
  ·subst h10
   have : ys = [] := List.eq_nil_of_length_eq_zero (by simpa using hlys.symm)
   subst this
   exact ⟨[],rfl,fun u h => by simp at h,by simp,.inl rfl⟩
  ·have hmap : ∀ i z,ys[i]? = some z → Cells μ b (o + i * de.size) (enc z) := fun i z hz => by
    have h11 : (ys0.map enc0)[i]? = some (enc z) := by rw [hm,List.getElem?_map,hz];rfl
    rw [List.getElem?_map,Option.map_eq_some_iff] at h11
    obtain ⟨z0,h12,h13⟩ := h11
    rw [← h13];exact h10 i z0 h12
   obtain ⟨news,h11,h12,h13,h14⟩ := view_vals ha h6 hmap
   exact ⟨news,h11,h12,h13,.inr ⟨_,hA,fun j u hj => by
    have := h14 j u hj
    by_cases h0 : j = 0 <;> simp [Addr.add,h0] <;> simpa [h0] using this⟩⟩
 obtain ⟨news,h11,h12,h13,h14⟩ := hkey
 have hbb : xs.length + ys.length ≤ 140737488355328 := by
  have h15 : 0 < de.bytes := Nat.blt_eq ▸ hb0
  exact Nat.le_trans (Nat.le_mul_of_pos_right _ h15) hb
 obtain ⟨v',w',hr,h15,h16,h17⟩ := run_app w t ty et de hu hTe (Nat.eq_of_beq_eq_true hz) (Nat.blt_eq ▸ hk0) v xs.length us h4 A ys.length c news h13 h14 h12 (by simp only [maxLen];omega) hb
 have hfr : ρ fr = none := hfree fr (Nat.le_refl _) (Nat.lt_succ_self _)
 have hrun : (execOp a.eval ⟨d,.call { callee := .builtin .append,args := #[x,y],argTypes := #[t,t] },ty,pos,after,gu⟩).run C.P w = .ok (.value v') w' := by
  rw [hlys] at h9
  simp only [execOp,resolve,invoke,builtin,Sem.run_bind,Sem.run_pure,Result.andThen_ok,List.map_toArray,List.map_cons,List.map_nil,← h1,h9,hr]
 have hwl : w.heap.size ≤ w'.heap.size := h16.size
 obtain ⟨k1,k2⟩ := heap_new (fr := fr) hH ha (o := .row et de.size enc xs) (ob := .row et de.size enc (xs ++ ys)) hmem rfl (v' := v') (w' := w') hfr (gt := (ρ r).bind blk) ⟨h16.os,h16.tape,h16.output,h16.size,fun k hk hne => h16.block k hk (by rw [hebr] at hne;exact hne)⟩ (fun k hk => yh hk)
  (by
   rw [oh h15]
   rcases h17 with h17 | h17
   ·exact .inl fun k hk => yh (by rw [show (ρ r).bind blk = _ from hebr,← h17];exact hk)
   ·exact .inr fun g hg => by rw [h17] at hg;injection hg with hg;omega)
  ⟨v',us ++ news,oY _ _ _,by rw [List.length_append];exact h15,by unfold IvFlat;rw [List.flatMap_append];exact h5.append h11,h6,fun g hg => by
   rcases h17 with h17 | h17
   ·rw [h17] at hg;exact h7 g hg
   ·rw [h17] at hg
    injection hg with hg
    subst hg
    cases e : μ w.heap.size with
    | none => rfl
    | some q => exact absurd (ha.lt (b := w.heap.size) (by rw [e];simp)) (Nat.lt_irrefl _),h8.append h12⟩
 unfold Oper.wp
 rw [hrun]
 refine ⟨v',μ,_,rfl,?_,k1,vv hfr,fun i hi => ?_,k2⟩
 ·unfold SV.R
  refine ⟨oY _ _ _,?_⟩
  rcases h15.2 with ⟨rfl,hn⟩ | ⟨g,cap,cur,rfl,_⟩
  ·exact ⟨none,0,by rw [hn],.inl hn⟩
  ·exact ⟨_,cap,rfl,.inr ⟨g,rfl⟩⟩
 ·unfold upd at hi
  by_cases e : i = fr
  ·exact .inr ⟨by omega,by omega⟩
  ·rw [if_neg e] at hi;exact .inl hi
def chunk (k : Nat) : Nat → List IV → List (List IV)
 | 0,_ => []
 | n + 1,l => l.take k :: chunk k n (l.drop k)
theorem jj (k : Nat) : ∀ (n : Nat) (l : List IV),(chunk k n l).length = n
 | 0,_ => rfl
 | n + 1,l => by simp [chunk,jj k n]
theorem chunk_at {μ : Mem} {b k : Nat} : ∀ (n : Nat) (l : List IV) (o : Nat),Cells μ b o l → ∀ i x,(chunk k n l)[i]? = some x → Cells μ b (o + i * k) x
 | 0,_,_,_,i,x,h => by simp [chunk] at h
 | n + 1,l,o,hc,i,x,h => by
  cases i with
  | zero => simp [chunk] at h;subst h;rw [Nat.zero_mul,Nat.add_zero];exact hc.take k
  | succ i =>
   have := chunk_at n (l.drop k) (o + k) (hc.drop k) i x (by simpa [chunk] using h)
   rw [show o + (i + 1) * k = o + k + i * k by rw [Nat.add_mul];omega];exact this
def repS (z : List SV) : Nat → List SV
 | 0 => []
 | n + 1 => z ++ repS z n
theorem od {t et : TypeId} {de : TyInf} {n k : Nat} {ps : List (Nat × Operand)} {out : List SV} (hT : slT C t = some (et,de)) (hk : de.size = k) (hz : Nat.beq de.zero.cells.size k = true) (hk0 : Nat.blt 0 k = true) (h1 : oneB de.zero.cells.toList = true) (hn : Nat.ble (n * k) 16777216 = true)
 (hp : Parts σ (fun i => some (i * k,k)) (repS (zeroS de.zero) n) ps out) : OpN C ⟨d,.buildSlice t n ps.toArray,ty,pos,after,gu⟩ σ (.pk n out) := OpN.run fun ρ μ a w hl ha => by
 obtain ⟨hu,hTe⟩ := jd hT
 subst hk
 have hzl : de.zero.cells.size = de.size := Nat.eq_of_beq_eq_true hz
 have hpos : 0 < de.size := Nat.blt_eq ▸ hk0
 have hev : ∀ p ∈ ps,∀ s,Ev σ p.2 s → SV.R ρ μ s (a.eval p.2) := fun p hp s hs => hs.at hl (by simp [Op.operands];exact ⟨p.1,hp⟩)
 let us : Array Value := if n * de.size = 0 then #[] else (Array.range (n * de.size)).map (de.zero.cells[· % de.zero.cells.size]!)
 have hus : us = (Array.range (n * de.size)).map (de.zero.cells[· % de.zero.cells.size]!) := by
  show (if n * de.size = 0 then #[] else _) = _
  split
  ·rename_i h;rw [h];simp
  ·rfl
 have hrep : ∀ n,(repS (zeroS de.zero) n).length = n * de.size ∧ ∀ j s,(repS (zeroS de.zero) n)[j]? = some s → s = SV.im (IV.val (de.zero.cells[j % de.zero.cells.size]!)) := by
  intro n
  have hzz : (zeroS de.zero).length = de.size := by simp [zeroS,hzl]
  induction n with
  | zero => exact ⟨by simp [repS],fun j s h => by simp [repS] at h⟩
  | succ n ih =>
   refine ⟨by simp only [repS,List.length_append,hzz,ih.1];rw [Nat.add_mul];omega,fun j s h => ?_⟩
   simp only [repS] at h
   rcases Nat.lt_or_ge j de.size with hj | hj
   ·rw [List.getElem?_append_left (by omega)] at h
    unfold zeroS at h
    rw [List.getElem?_map,Option.map_eq_some_iff] at h
    obtain ⟨u,h2,rfl⟩ := h
    rw [hzl,Nat.mod_eq_of_lt hj]
    congr 2
    rw [Array.getElem?_toList] at h2
    simp [getElem!_def,h2]
   ·rw [List.getElem?_append_right (by omega),hzz] at h
    rw [ih.2 _ s h,hzl,Nat.mod_eq_sub_mod hj]
 have hR : SV.Rs ρ μ (repS (zeroS de.zero) n) us.toList ∧ One us.toList := by
  have key : ∀ (l : List SV) (vs : List Value),l.length = vs.length → (∀ (j : Nat) (s : SV) (v : Value),l[j]? = some s → vs[j]? = some v → SV.R ρ μ s v) → SV.Rs ρ μ l vs := by
   intro l
   induction l with
   | nil => intro vs h _;have : vs = [] := List.eq_nil_of_length_eq_zero (by simpa using h.symm);unfold SV.Rs;exact this
   | cons s l ih =>
    intro vs h h2
    cases vs with
    | nil => simp at h
    | cons v vs => unfold SV.Rs;exact ⟨v,vs,rfl,h2 0 s v rfl rfl,ih vs (by simpa using h) fun j s' v' hs hv => h2 (j + 1) s' v' (by simpa using hs) (by simpa using hv)⟩
  rw [hus]
  refine ⟨key _ _ (by simp [(hrep n).1]) fun j s v hs hv => ?_,fun u hu => ?_⟩
  ·have hj : j < n * de.size := by rw [← (hrep n).1];exact (List.getElem?_eq_some_iff.1 hs).1
   rw [(hrep n).2 j s hs]
   simp [hj] at hv
   exact oi.2 hv.symm
  ·simp only [Array.toList_map,List.mem_map] at hu
   obtain ⟨j,hj,rfl⟩ := hu
   have hlt : j % de.zero.cells.size < de.zero.cells.size := Nat.mod_lt _ (by omega)
   refine qI h1 _ ?_
   rw [getElem!_pos de.zero.cells _ hlt]
   exact Array.getElem_mem_toList hlt
 obtain ⟨us',h4,h5,h6⟩ := hp.fill (ρ := ρ) (μ := μ) (a := a) hev hR.1 hR.2
 have hs := Stp.newCells ha us' et
 refine ⟨_,_,_,?_,by unfold SV.R;exact ⟨w.heap.size,us'.toList,rfl,by unfold Mem.add;rw [if_pos rfl],h5.mono (Nms.le.refl _) hs.le,h6⟩,hs⟩
 ·have hle := Nat.le_of_ble_eq_true hn
  have hrun : (execOp a.eval ⟨d,.buildSlice t n ps.toArray,ty,pos,after,gu⟩).run C.P w = .ok (.value (.slice (some ⟨w.heap.size,0,none⟩) n n)) (w.alloc (.cells us' et)) := by
   simp only [execOp,Instr.buildSlice,Sem.run_bind,run_underlying hu,Result.andThen_ok,hTe.size w]
   rw [if_neg (by omega)]
   have hps : (Array.map (fun (x : Nat × Operand) => (x.fst,a.eval x.snd)) ps.toArray).toList = ps.map fun p => (p.1,a.eval p.2) := by simp
   by_cases h0 : n * de.size = 0
   ·have h4' := h4
    rw [hus,h0] at h4'
    simp only [h0,if_true,Sem.run_bind,Sem.run_pure,Result.andThen_ok,hps]
    have e0 : Array.map (fun x => (#[] : Array Value)[x % (#[] : Array Value).size]!) (Array.range 0) = Array.map (fun x => de.zero.cells[x % de.zero.cells.size]!) (Array.range 0) := by simp
    rw [e0,h4']
    simp [newRow,newObj,Sem.run]
   ·have h4' := h4
    rw [hus] at h4'
    simp only [if_neg h0,Sem.run_bind,Sem.run_pure,Result.andThen_ok,hps,hTe.zero w,h4']
    simp [newRow,newObj,Sem.run]
  exact hrun
theorem pk_view {ρ : Nms} {μ : Mem} {n k : Nat} {out : List SV} {l : List IV} {v : Value} (hk0 : Nat.blt 0 k = true) (hn : Nat.ble (n * k) 16777216 = true) (hi : ims out = some l) (h : SV.R ρ μ (.pk n out) v) : (IV.view k (fun x => x) (chunk k n l)).p μ v := by
 unfold SV.R at h
 obtain ⟨b,vs,rfl,hm,h5,h6⟩ := h
 rw [jW hi] at h5
 have hpos : 0 < k := Nat.blt_eq ▸ hk0
 refine ⟨some ⟨b,0,none⟩,n,by rw [jj],by rw [jj];exact Nat.le_refl _,?_,.inr ⟨b,0,rfl,chunk_at n l 0 fun j s hj => ?_⟩⟩
 ·have hle := Nat.le_of_ble_eq_true hn
  have : n ≤ n * k := Nat.le_mul_of_pos_right _ hpos
  simp only [maxLen];omega
 ·obtain ⟨v,h7,h8⟩ := (SV.Rs.im.1 h5).get hj
  exact ⟨_,v,hm,by rw [Nat.zero_add];simpa using h7,h8,h6 v (List.mem_of_getElem? h7)⟩
theorem o6 {t et : TypeId} {de : TyInf} {n k : Nat} {ps : List (Nat × Operand)} {out : List SV} {l : List IV} (hT : slT C t = some (et,de)) (hk : de.size = k) (hz : Nat.beq de.zero.cells.size k = true) (hk0 : Nat.blt 0 k = true) (h1 : oneB de.zero.cells.toList = true) (hn : Nat.ble (n * k) 16777216 = true)
 (hp : Parts σ (fun i => some (i * k,k)) (repS (zeroS de.zero) n) ps out) (hi : ims out = some l) : OpN C ⟨d,.buildSlice t n ps.toArray,ty,pos,after,gu⟩ σ (.im (IV.view k (fun x => x) (chunk k n l))) := fun ρ μ a w hl ha => by
 refine Oper.wp_mono ?_ (od (ty := ty) (pos := pos) (after := after) (gu := gu) (d := d) hT hk hz hk0 h1 hn hp ρ μ a w hl ha)
 rintro a' w' ⟨v,μ',e,h1,h2⟩
 exact ⟨v,μ',e,oi.2 (pk_view hk0 hn hi h1),h2⟩
end
def ILe (s s' : IV) : Prop := ∀ μ v,s.p μ v → s'.p μ v
theorem ILe.refl {s : IV} : ILe s s := fun _ _ h => h
theorem ILe.int {a b : Int} (h : a = b) : ILe (IV.int a) (IV.int b) := h ▸ ILe.refl
theorem ILe.bool {a b : Bool} (h : a = b) : ILe (IV.bool a) (IV.bool b) := h ▸ ILe.refl
theorem ILe.nil {α : Type} {k : Nat} {enc : α → List IV} {c : Nat} (hc : Nat.ble c 4611686018427387904 = true) : ILe (IV.val (.slice none 0 c)) (IV.view k enc []) := fun _ v h => ⟨none,c,h,Nat.zero_le _,by have := Nat.le_of_ble_eq_true hc;simp only [maxLen];omega,.inl rfl⟩
theorem ILe.view {α β : Type} {k : Nat} {enc : α → List IV} {enc' : β → List IV} {xs : List α} {ys : List β} (h : xs.map enc = ys.map enc') : ILe (IV.view k enc xs) (IV.view k enc' ys) := fun μ v ⟨A,c,e,l1,l2,k'⟩ => by
 have hl : xs.length = ys.length := by have := congrArg List.length h;simpa using this
 refine ⟨A,c,by rw [← hl];exact e,by rw [← hl];exact l1,l2,?_⟩
 rcases k' with h0 | ⟨b,o,hA,k'⟩
 ·subst h0;exact .inl (List.eq_nil_of_length_eq_zero hl.symm)
 ·refine .inr ⟨b,o,hA,fun i y hy => ?_⟩
  have h1 : (xs.map enc)[i]? = some (enc' y) := by rw [h,List.getElem?_map,hy];rfl
  rw [List.getElem?_map,Option.map_eq_some_iff] at h1
  obtain ⟨x,hx,he⟩ := h1
  rw [← he];exact k' i x hx
theorem ILe.eq {s s' : IV} (h : s = s') : ILe s s' := h ▸ ILe.refl
inductive ILes : List IV → List IV → Prop
 | nil : ILes [] []
 | cons {s s' : IV} {l l' : List IV} (h : ILe s s') (t : ILes l l') : ILes (s :: l) (s' :: l')
theorem ILes.p {μ : Mem} : ∀ {l l' : List IV} {vs : List Value},ILes l l' → IVs μ l vs → IVs μ l' vs
 | _,_,_,.nil,h => h
 | _,_,_,.cons h t,⟨v,vs,e,h1,h2⟩ => ⟨v,vs,e,h _ _ h1,t.p h2⟩
theorem ILes.refl : ∀ {l : List IV},ILes l l
 | [] => .nil
 | _ :: _ => .cons ILe.refl ILes.refl
def ImOf (s : SV) (i : IV) : Prop := ∀ ρ μ v,SV.R ρ μ s v → i.p μ v
theorem ImOf.im {s i : IV} (h : ILe s i) : ImOf (.im s) i := fun _ _ _ hv => h _ _ (oi.1 hv)
theorem ImOf.agg {l : List SV} {l' l'' : List IV} (h : ims l = some l') (k : ILes l' l'') : ImOf (.agg l) (IV.agg l'') := fun ρ μ v hv => by
 unfold SV.R at hv
 obtain ⟨vs,e,h1,h2⟩ := hv
 rw [jW h] at h1
 exact ⟨vs,e,k.p (SV.Rs.im.1 h1),h2⟩
theorem Ev.of {σ : Env} {x : Operand} {s : SV} {i : IV} (h : Ev σ x s) (k : ImOf s i) : Ev σ x (.im i) := h.to fun ρ μ v hv => oi.2 (k ρ μ v hv)
def rlk : List (Nat × Nat) → Nat → Option Nat
 | [],_ => none
 | (i,j) :: r,n => match Nat.beq i n with
  | true => some j
  | false => rlk r n
def ren (rn : List (Nat × Nat)) (ρ : Nms) : Nms := fun i => match rlk rn i with
 | some j => ρ j
 | none => none
mutual
inductive SLe (rn : List (Nat × Nat)) : SV → SV → Prop
 | im {s s' : IV} (h : ILe s s') : SLe rn (.im s) (.im s')
 | off {i j o o' : Nat} (h : rlk rn i = some j) (ho : o = o') : SLe rn (.off j o) (.off i o')
 | row {i j n n' : Nat} (h : rlk rn i = some j) (hn : n = n') : SLe rn (.row j n) (.row i n')
 | sl {i j n n' : Nat} (h : rlk rn i = some j) (hn : n = n') : SLe rn (.sl j n) (.sl i n')
 | agg {l l' : List SV} (h : SLes rn l l') : SLe rn (.agg l) (.agg l')
 | imAgg {l : List SV} {s : IV} (h : ImOf (.agg l) s) : SLe rn (.agg l) (.im s)
 | fn {f : FuncId} {l l' : List SV} (h : SLes rn l l') : SLe rn (.fn f l) (.fn f l')
 | is {u : Value} {s s' : SV} (h : SLe rn s s') : SLe rn (.is u s) (.is u s')
 | of {u : Value} {s s' : SV} (h : SLe rn s s') : SLe rn (.is u s) s'
 | hd {i j : Nat} (h : rlk rn i = some j) : SLe rn (.hd j) (.hd i)
 | tup {l l' : List SV} (h : SLes rn l l') : SLe rn (.tup l) (.tup l')
 | pk {n : Nat} {l l' : List SV} (h : SLes rn l l') : SLe rn (.pk n l) (.pk n l')
 | pp {l l' : List SV} (h : SLes rn l l') : SLe rn (.pp l) (.pp l')
inductive SLes (rn : List (Nat × Nat)) : List SV → List SV → Prop
 | nil : SLes rn [] []
 | cons {s s' : SV} {l l' : List SV} (h : SLe rn s s') (t : SLes rn l l') : SLes rn (s :: l) (s' :: l')
end
mutual
theorem SLe.p {rn : List (Nat × Nat)} {ρ : Nms} {μ : Mem} : ∀ {s s' : SV} {v : Value},SLe rn s s' → SV.R ρ μ s v → SV.R (ren rn ρ) μ s' v
 | _,_,v,.im h,k => oi.2 (h _ _ (oi.1 k))
 | _,_,v,.off h ho,k => by unfold SV.R at k ⊢;obtain ⟨g,h1,h2⟩ := k;exact ⟨g,by unfold ren;rw [h];exact h1,by rw [← ho];exact h2⟩
 | _,_,v,.row h hn,k => by unfold SV.R at k ⊢;subst hn;exact ⟨by unfold ren;rw [h];exact k.1,k.2⟩
 | _,_,v,.sl h ho,k => by unfold SV.R at k ⊢;obtain ⟨g,h1,h2⟩ := k;exact ⟨g,by unfold ren;rw [h];exact h1,by rw [← ho];exact h2⟩
 | _,_,v,.agg h,k => by unfold SV.R at k ⊢;obtain ⟨vs,e,h1,h2⟩ := k;exact ⟨vs,e,SLes.p h h1,h2⟩
 | _,_,v,.imAgg h,k => oi.2 (h _ _ _ k)
 | _,_,v,.fn h,k => by unfold SV.R at k ⊢;obtain ⟨vs,e,h1⟩ := k;exact ⟨vs,e,SLes.p h h1⟩
 | _,_,v,.is h,k => by unfold SV.R at k ⊢;exact ⟨k.1,SLe.p h k.2⟩
 | _,_,v,.of h,k => by unfold SV.R at k;exact SLe.p h k.2
 | _,_,v,.hd h,k => by unfold SV.R at k ⊢;unfold ren;rw [h];exact k
 | _,_,v,.tup h,k => by unfold SV.R at k ⊢;obtain ⟨vs,e,h1⟩ := k;exact ⟨vs,e,SLes.p h h1⟩
 | _,_,v,.pk h,k => by unfold SV.R at k ⊢;obtain ⟨b,vs,e,m,h1,h2⟩ := k;exact ⟨b,vs,e,m,SLes.p h h1,h2⟩
 | _,_,v,.pp h,k => by unfold SV.R at k ⊢;obtain ⟨b,q,us,e,m,h1,h2⟩ := k;exact ⟨b,q,us,e,m,SLes.p h h1,h2⟩
theorem SLes.p {rn : List (Nat × Nat)} {ρ : Nms} {μ : Mem} : ∀ {l l' : List SV} {vs : List Value},SLes rn l l' → SV.Rs ρ μ l vs → SV.Rs (ren rn ρ) μ l' vs
 | _,_,vs,.nil,k => by unfold SV.Rs at k ⊢;exact k
 | _,_,vs,.cons h t,k => by unfold SV.Rs at k ⊢;obtain ⟨v,vs',e,h1,h2⟩ := k;exact ⟨v,vs',e,SLe.p h h1,SLes.p t h2⟩
end
inductive SubE (rn : List (Nat × Nat)) (σ : Env) : Env → Prop
 | nil : SubE rn σ []
 | cons {d : Nat} {s s' : SV} {σ' : Env} (h : lk σ d = some s) (hs : SLe rn s s') (t : SubE rn σ σ') : SubE rn σ ((d,s') :: σ')
theorem SubE.at {rn : List (Nat × Nat)} {σ σ' : Env} (h : SubE rn σ σ') : ∀ {t : Nat} {s' : SV},lk σ' t = some s' → ∃ s,lk σ t = some s ∧ SLe rn s s' := by
 induction h with
 | nil => intro t s' h;cases h
 | @cons d s s1 σ' h hs t ih =>
  intro t s' h'
  simp only [lk] at h'
  cases hb : Nat.beq d t with
  | true => rw [hb] at h';injection h' with h';subst h';rw [← Nat.eq_of_beq_eq_true hb];exact ⟨s,h,hs⟩
  | false => rw [hb] at h';exact ih h'
inductive ObLe (rn : List (Nat × Nat)) : HObj → HObj → Prop
 | blk {t : TypeId} {cs cs' : List SV} (h : SLes rn cs cs') : ObLe rn (.blk t cs) (.blk t cs')
 | row {t k : Nat} {α : Type} {enc : α → List IV} {xs xs' : List α} (h : xs = xs') : ObLe rn (.row t k enc xs) (.row t k enc xs')
 | obj {O O' : Obj → Prop} (h : ∀ o,O o → O' o) : ObLe rn (.obj O) (.obj O')
 | nest {t et k : Nat} {α : Type} {enc : α → List IV} {xss xss' : List (List α)} (h : xss = xss') : ObLe rn (.nest t et k enc xss) (.nest t et k enc xss')
theorem ObLe.span {rn : List (Nat × Nat)} {o o' : HObj} (h : ObLe rn o o') : o'.span = o.span := by
 cases h with
 | nest h => rw [h]
 | _ => rfl
def nestN (rn : List (Nat × Nat)) (i j : Nat) : HObj → Bool
 | .nest _ _ _ _ _ => (List.range 16).all fun k => match rlk rn (i + k) with
  | some q => Nat.beq q (j + k)
  | none => false
 | _ => true
inductive SubH (rn : List (Nat × Nat)) (H : List Ent) : List Ent → Prop
 | nil : SubH rn H []
 | cons {i j : Nat} {ob ob' : HObj} {H' : List Ent} (hr : rlk rn i = some j) (hh : hget H j = some ob) (ho : ObLe rn ob ob') (t : SubH rn H H') (hn : nestN rn i j ob' = true := by rfl) : SubH rn H ((i,ob') :: H')
theorem SubH.at {rn : List (Nat × Nat)} {H H' : List Ent} (h : SubH rn H H') : ∀ {e : Ent},e ∈ H' → ∃ j ob,rlk rn e.1 = some j ∧ (j,ob) ∈ H ∧ ObLe rn ob e.2 ∧ nestN rn e.1 j e.2 = true := by
 induction h with
 | nil => intro e h;cases h
 | cons hr hh ho t hn ih =>
  intro e he
  rcases List.mem_cons.1 he with rfl | he
  ·exact ⟨_,_,hr,om hh,ho,hn⟩
  ·exact ih he
def rnOk : List (Nat × Nat) → Nat → Bool
 | [],_ => true
 | (i,j) :: r,n => Nat.blt i n && r.all (fun p => !Nat.beq p.2 j) && rnOk r n
theorem rlk_mem : ∀ {rn : List (Nat × Nat)} {i j : Nat},rlk rn i = some j → (i,j) ∈ rn
 | (a,b) :: r,i,j,h => by
  simp only [rlk] at h
  cases hb : Nat.beq a i with
  | true => rw [hb] at h;injection h with h;subst h;rw [Nat.eq_of_beq_eq_true hb];exact List.mem_cons_self
  | false => rw [hb] at h;exact List.mem_cons_of_mem _ (rlk_mem h)
theorem rnOk_lt : ∀ {rn : List (Nat × Nat)} {n : Nat},rnOk rn n = true → ∀ p ∈ rn,p.1 < n
 | (i,j) :: r,n,h,p,hp => by
  simp only [rnOk,Bool.and_eq_true] at h
  rcases List.mem_cons.1 hp with rfl | hp
  ·exact Nat.blt_eq ▸ h.1.1
  ·exact rnOk_lt h.2 p hp
theorem rnOk_inj : ∀ {rn : List (Nat × Nat)} {n : Nat},rnOk rn n = true → ∀ {i i' j : Nat},rlk rn i = some j → rlk rn i' = some j → i = i'
 | [],_,_,i,i',j,h,_ => by cases h
 | (a,b) :: r,n,h,i,i',j,h1,h2 => by
  simp only [rnOk,Bool.and_eq_true] at h
  have hno : ∀ x,rlk r x = some b → False := fun x hx => by
   have := List.all_eq_true.1 h.1.2 _ (rlk_mem hx)
   simp [Nat.beq_refl] at this
  simp only [rlk] at h1 h2
  cases hb : Nat.beq a i with
  | true =>
   rw [hb] at h1
   injection h1 with h1
   subst h1
   cases hb' : Nat.beq a i' with
   | true => rw [← Nat.eq_of_beq_eq_true hb,← Nat.eq_of_beq_eq_true hb']
   | false => rw [hb'] at h2;exact (hno _ h2).elim
  | false =>
   rw [hb] at h1
   cases hb' : Nat.beq a i' with
   | true => rw [hb'] at h2;injection h2 with h2;subst h2;exact (hno _ h1).elim
   | false => rw [hb'] at h2;exact rnOk_inj h.2 h1 h2
section
variable {C : Cfg} {F : Fx} {nt : Nat} {x : St} {σ σ' : Env} {H H' : List Ent} {fr fr' : Nat}
theorem Shift.sub (rn : List (Nat × Nat)) (hr : rnOk rn fr' = true) (hσ : SubE rn σ σ') (hH : SubH rn H H') : Shift F nt ⟨σ,H,fr⟩ ⟨σ',H',fr'⟩ := fun μ ρ a w hi => by
 have hent : ∀ e ∈ H',EntOk (ren rn ρ) μ w e ∧ ∃ j ob,rlk rn e.1 = some j ∧ (j,ob) ∈ H ∧ eb (ren rn ρ) e = eb ρ (j,ob) := fun e he => by
  obtain ⟨j,ob,h1,h2,h3,hn⟩ := hH.at he
  obtain ⟨i,ob'⟩ := e
  have h4 := hi.heap.1 _ h2
  have h5 : ren rn ρ i = ρ j := by unfold ren;rw [h1]
  have h6 : ∀ q,q < ob.span → ren rn ρ (i + q) = ρ (j + q) := fun q hq => by
   cases h3 with
   | nest h =>
    have hl := h4.1
    simp only [HObj.span] at hq
    have h7 := List.all_eq_true.1 hn q (List.mem_range.2 (by omega))
    unfold ren
    revert h7
    show (match rlk rn (i + q) with
     | some q' => Nat.beq q' (j + q)
     | none => false) = true → _
    cases rlk rn (i + q) with
    | none => intro h7;cases h7
    | some q' => intro h7;rw [Nat.eq_of_beq_eq_true h7]
   | _ =>
    have : q = 0 := by simp only [HObj.span] at hq;omega
    subst this;exact h5
  refine ⟨?_,j,ob,h1,h2,?_⟩
  ·refine ?_
   cases h3 with
   | blk h => obtain ⟨g,us,k1,k2,k3,k4⟩ := h4;exact ⟨g,us,by rw [h5];exact k1,k2,h.p k3,k4⟩
   | row h => subst h;obtain ⟨v,us,k1,k2⟩ := h4;exact ⟨v,us,by rw [h5];exact k1,k2⟩
   | obj h => obtain ⟨g,o,k1,k2,k3,k4⟩ := h4;exact ⟨g,o,by rw [h5];exact k1,k2,h o k3,k4⟩
   | nest h =>
    subst h
    obtain ⟨hl,hk,⟨v,us,k1,k2,k3,k4⟩,k5⟩ := h4
    refine ⟨hl,hk,⟨v,us,by rw [h5];exact k1,k2,k3,fun q xs hq => ?_⟩,fun q q' hq hq' hne g => ?_⟩
    ·obtain ⟨u,k6,k7,k8⟩ := k4 q xs hq
     have hql := (List.getElem?_eq_some_iff.1 hq).1
     refine ⟨u,k6,?_,k8⟩
     have := h6 (q + 1) (by simp only [HObj.span];omega)
     rw [show i + 1 + q = i + (q + 1) by omega,this,show j + (q + 1) = j + 1 + q by omega]
     exact k7
    ·rw [h6 q (by simp only [HObj.span];omega),h6 q' (by simp only [HObj.span];omega)]
     exact k5 q q' hq hq' hne g
  ·funext g
   unfold eb
   simp only [h3.span]
   exact propext ⟨fun ⟨q,hq,h⟩ => ⟨q,hq,by rw [← h6 q hq];exact h⟩,fun ⟨q,hq,h⟩ => ⟨q,hq,by rw [h6 q hq];exact h⟩⟩
 refine ⟨μ,ren rn ρ,hi.size,hi.defers,fun t s' hs => ?_,hi.agr,⟨fun e he => (hent e he).1,fun e he e' he' hne g hg hg' => ?_⟩,fun i hi' => ?_,hi.os,hi.tape,hi.output,hi.hsize,hi.block,hi.le,hi.new,fun e he g hg => ?_⟩
 ·obtain ⟨s,h1,h2⟩ := hσ.at hs
  exact h2.p (hi.env t s h1)
 ·obtain ⟨_,j,ob,h1,h2,h3⟩ := hent e he
  obtain ⟨_,j',ob',h1',h2',h3'⟩ := hent e' he'
  rw [h3] at hg
  rw [h3'] at hg'
  exact hi.heap.2 _ h2 _ h2' (fun e2 => hne (rnOk_inj hr h1 (by rw [h1'];exact congrArg some e2.symm))) g hg hg'
 ·unfold ren at hi'
  cases e : rlk rn i with
  | none => rw [e] at hi';exact absurd rfl hi'
  | some j => exact rnOk_lt hr _ (rlk_mem e)
 ·obtain ⟨_,j,ob,h1,h2,h3⟩ := hent e he
  rw [h3] at hg
  exact hi.own _ h2 g hg
theorem Inv.slot {μ : Mem} {ρ : Nms} {a : Act} {w : World} (h : Inv F nt ⟨σ,H,fr⟩ μ ρ a w) {d : Nat} {s : SV} (hs : SV.R ρ μ s (a.tmps.getD d undef)) : Inv F nt ⟨(d,s) :: σ,H,fr⟩ μ ρ a w :=
 ⟨h.size,h.defers,fun t s' e => by
  simp only [lk] at e
  cases hb : Nat.beq d t with
  | true => rw [hb] at e;injection e with e;subst e;rw [← Nat.eq_of_beq_eq_true hb];exact hs
  | false => rw [hb] at e;exact h.env t s' e,h.agr,h.heap,h.nms,h.os,h.tape,h.output,h.hsize,h.block,h.le,h.new,h.own⟩
theorem Shift.row0 {α : Type} (d et k : Nat) (enc : α → List IV) (hk : ∀ x,(enc x).length = k) (h : lk σ d = some (.im (IV.val (.slice none 0 0)))) : Shift F nt ⟨σ,H,fr⟩ ⟨(d,.row fr 0) :: σ,(fr,.row et k enc []) :: H,fr + 1⟩ := fun μ ρ a w hi => by
 have h1 : a.tmps.getD d undef = .slice none 0 0 := oi.1 (hi.env d _ h)
 have h2 := hi.new1 (v := .slice none 0 0) (ob := .row et k enc []) (Stp.refl hi.agr) ⟨_,[],oY _ _ _,World.ownsRow_nil _ _ _ _,rfl,hk,⟨(fun g hg => by cases hg),(fun u hu => by cases hu)⟩⟩ (fun g hg => by cases hg)
 exact ⟨μ,_,h2.slot (by unfold SV.R;exact ⟨by rw [h1];exact oY _ _ _,none,0,h1,.inl rfl⟩)⟩
theorem Inv.addMem {μ : Mem} {ρ : Nms} {a : Act} {w : World} (h : Inv F nt ⟨σ,H,fr⟩ μ ρ a w) {g : Nat} {cs : Array Value} {t : TypeId} {i : Nat} {o : HObj} (hm : (i,o) ∈ H) (hg : eb ρ (i,o) g) (hh : w.heap[g]? = some (.cells cs t (0,0))) :
 Inv F nt ⟨σ,hdel H i,fr⟩ (μ.add g cs) ρ a w ∧ Mem.le μ (μ.add g cs) := by
 have h0 := ((h.heap.1 _ hm).lt hg).2
 have hle : Mem.le μ (μ.add g cs) := fun b c hb => by
  unfold Mem.add
  by_cases e : b = g
  ·subst e;rw [h0] at hb;cases hb
  ·rw [if_neg e];exact hb
 refine ⟨⟨h.size,h.defers,h.env.mono (Nms.le.refl _) hle,fun b c hb => ?_,⟨fun e he => ?_,fun e he e' he' => h.heap.2 e (ov he).1 e' (ov he').1⟩,h.nms,h.os,h.tape,h.output,h.hsize,h.block,h.le.trans hle,fun b hb => ?_,fun e he => h.own e (ov he).1⟩,hle⟩
 ·unfold Mem.add at hb
  by_cases e : b = g
  ·rw [if_pos e] at hb;injection hb with hb;subst hb;subst e;exact ⟨t,(0,0),hh⟩
  ·rw [if_neg e] at hb;exact h.agr b c hb
 ·obtain ⟨h1,h2⟩ := ov he
  refine (h.heap.1 e h1).keep (Nms.le.refl _) hle fun k hk => ⟨rfl,?_⟩
  unfold Mem.add
  rw [if_neg (fun e2 => h.heap.2 _ hm e h1 (fun e3 => h2 e3.symm) g hg (by rw [← e2];exact hk))]
  exact ((h.heap.1 e h1).lt hk).2
 ·unfold Mem.add at hb
  by_cases e : b = g
  ·subst e
   exact .inr (h.own _ hm b hg).symm
  ·rw [if_neg e] at hb;exact h.new b hb
theorem row_view {α : Type} {ρ : Nms} {μ : Mem} {w : World} {i : Nat} {t k : Nat} {enc : α → List IV} {xs : List α} (h : EntOk ρ μ w (i,.row t k enc xs)) :
 (∃ v,ρ i = some v ∧ blk v = none ∧ ∀ ν,(IV.view k enc xs).p ν v) ∨
 ∃ v g cs,ρ i = some v ∧ eb ρ (i,.row t k enc xs) g ∧ w.heap[g]? = some (.cells cs t (0,0)) ∧ (Mem.le μ (μ.add g cs) → (IV.view k enc xs).p (μ.add g cs) v) := by
 obtain ⟨v,us,h1,h2,h3,h4,h5,h6⟩ := h
 rcases h2.2 with ⟨rfl,hn⟩ | ⟨g,cap,cur,rfl,_,hg,hnc,hcm,hcs,htake⟩
 ·have : xs = [] := List.eq_nil_of_length_eq_zero hn
  subst this
  exact .inl ⟨_,h1,rfl,fun ν => ⟨none,0,rfl,Nat.le_refl _,by simp [maxLen],.inl rfl⟩⟩
 ·refine .inr ⟨_,g,cur,h1,yh (by rw [h1];rfl),hg,fun hle => ⟨_,cap,rfl,hnc,hcm,.inr ⟨g,0,rfl,fun q y hy j s hj => ?_⟩⟩⟩
  have h7 : ∀ (xs : List α) (q : Nat),xs[q]? = some y → (xs.flatMap enc)[q * k + j]? = some s := by
   intro xs
   induction xs with
   | nil => intro q h;simp at h
   | cons z zs ih =>
    intro q h
    rw [List.flatMap_cons]
    cases q with
    | zero =>
     simp at h;subst h
     have : j < (enc z).length := (List.getElem?_eq_some_iff.1 hj).1
     rw [Nat.zero_mul,Nat.zero_add,List.getElem?_append_left this];exact hj
    | succ q =>
     rw [List.getElem?_append_right (by rw [h4 z,Nat.add_mul];omega),h4 z]
     rw [show (q + 1) * k + j - k = q * k + j by rw [Nat.add_mul];omega]
     exact ih q (by simpa using h)
  obtain ⟨u,h8,h9⟩ := h3.get (h7 xs q hy)
  refine ⟨cur,u,by unfold Mem.add;rw [if_pos rfl],?_,s.mono hle h9,h6 u (List.mem_of_getElem? h8)⟩
  rw [← htake,List.getElem?_take] at h8
  split at h8
  ·rw [Nat.zero_add];simpa using h8
  ·cases h8
theorem Shift.frzRow {α : Type} (d : Nat) {i n t k : Nat} {enc : α → List IV} {xs : List α} (h : lk σ d = some (.row i n)) (hh : hget H i = some (.row t k enc xs)) : Shift F nt ⟨σ,H,fr⟩ ⟨(d,.im (IV.view k enc xs)) :: σ,hdel H i,fr⟩ := fun μ ρ a w hi => by
 have h1 := hi.env d _ h
 unfold SV.R at h1
 have hm := om hh
 rcases row_view (hi.heap.1 _ hm) with ⟨v,h2,h3,h4⟩ | ⟨v,g,cs,h2,h3,h4,h5⟩
 ·have hi2 : Inv F nt ⟨σ,hdel H i,fr⟩ μ ρ a w := ⟨hi.size,hi.defers,hi.env,hi.agr,hi.heap.sub fun e he => (ov he).1,hi.nms,hi.os,hi.tape,hi.output,hi.hsize,hi.block,hi.le,hi.new,fun e he => hi.own e (ov he).1⟩
  refine ⟨μ,ρ,hi2.slot (oi.2 ?_)⟩
  rw [h2] at h1;rw [← Option.some.inj h1.1];exact h4 μ
 ·obtain ⟨h6,h7⟩ := hi.addMem hm h3 h4
  refine ⟨_,ρ,h6.slot (oi.2 ?_)⟩
  rw [h2] at h1;rw [← Option.some.inj h1.1];exact h5 h7
theorem Shift.frzBlk (d : Nat) {i o t : Nat} {cs : List SV} {l : List IV} (h : lk σ d = some (.off i o)) (hh : hget H i = some (.blk t cs)) (hl : ims cs = some l) : Shift F nt ⟨σ,H,fr⟩ ⟨(d,.im (IV.ptr (l.drop o))) :: σ,hdel H i,fr⟩ := fun μ ρ a w hi => by
 have h1 := hi.env d _ h
 unfold SV.R at h1
 obtain ⟨g,h2,h3⟩ := h1
 have hm := om hh
 obtain ⟨g',us,h4,h5,h6,h7,h8⟩ := hi.heap.1 _ hm
 rw [h4] at h2
 simp only [Option.bind_some,blk,Option.some.injEq] at h2
 subst h2
 obtain ⟨h9,h10⟩ := hi.addMem (g := g') hm (yh (by rw [h4];rfl)) h5
 refine ⟨_,ρ,h9.slot (oi.2 ⟨g',o,h3,?_⟩)⟩
 rw [jW hl] at h6
 have h11 : Cells (μ.add g' us) g' 0 l := fun j s hj => by
  obtain ⟨v,h12,h13⟩ := (SV.Rs.im.1 h6).get hj
  exact ⟨us,v,by unfold Mem.add;rw [if_pos rfl],by rw [Nat.zero_add];simpa using h12,s.mono h10 h13,h8 v (List.mem_of_getElem? h12)⟩
 have := h11.drop o
 rwa [Nat.zero_add] at this
theorem Shift.frzIn {α : Type} (p j : Nat) {i n t bt k : Nat} {cs : List SV} {enc : α → List IV} {xs : List α} (hp : hget H p = some (.blk bt cs)) (hj : cs[j]? = some (.row i n)) (hh : hget H i = some (.row t k enc xs)) (hne : Nat.beq p i = false) :
 Shift F nt ⟨σ,H,fr⟩ ⟨σ,hset (hdel H i) p (.blk bt (cs.set j (.im (IV.view k enc xs)))),fr⟩ := fun μ ρ a w hi => by
 have hm := om hh
 have hmp := om hp
 have hpi : p ≠ i := Nat.ne_of_beq_eq_false hne
 have key : ∀ ν,Inv F nt ⟨σ,hdel H i,fr⟩ ν ρ a w → (∀ v,ρ i = some v → (IV.view k enc xs).p ν v) → Inv F nt ⟨σ,hset (hdel H i) p (.blk bt (cs.set j (.im (IV.view k enc xs)))),fr⟩ ν ρ a w := by
  intro ν h1 h2
  have hmd : (p,HObj.blk bt cs) ∈ hdel H i := by
   have : ∀ (H : List Ent),(p,HObj.blk bt cs) ∈ H → (p,HObj.blk bt cs) ∈ hdel H i := by
    intro H
    induction H with
    | nil => intro h;cases h
    | cons e H ih =>
     obtain ⟨q,o⟩ := e
     intro h
     simp only [hdel]
     cases hb : Nat.beq q i with
     | true =>
      rcases List.mem_cons.1 h with h | h
      ·injection h with h _;subst h;exact absurd (Nat.eq_of_beq_eq_true hb) hpi
      ·exact ih h
     | false =>
      rcases List.mem_cons.1 h with h | h
      ·rw [h];exact List.mem_cons_self
      ·exact List.mem_cons_of_mem _ (ih h)
   exact this H hmp
  have h3 : EntOk ρ ν w (p,.blk bt (cs.set j (.im (IV.view k enc xs)))) := by
   obtain ⟨g,us,k1,k2,k3,k4,k5⟩ := h1.heap.1 _ hmd
   refine ⟨g,us,k1,k2,?_,k4,k5⟩
   obtain ⟨v,k6,k7⟩ := k3.get hj
   unfold SV.R at k7
   have k8 := k3.set (s := .im (IV.view k enc xs)) (v := v) (oi.2 (h2 v k7.1)) j
   have : us.toList.set j v = us.toList := by
    apply List.ext_getElem?
    intro q
    rw [List.getElem?_set]
    split
    ·rename_i e;subst e;split
     ·rw [k6]
     ·rename_i hlt;rw [List.getElem?_eq_none (by omega)]
    ·rfl
   rwa [this] at k8
  obtain ⟨h4,_⟩ := um h1.heap h1.agr hmd (gt := none) ⟨rfl,rfl,rfl,Nat.le_refl _,fun _ _ _ => rfl⟩ (fun _ h => by cases h) h3 rfl
  refine ⟨h1.size,h1.defers,h1.env,h1.agr,h4,h1.nms,h1.os,h1.tape,h1.output,h1.hsize,h1.block,h1.le,h1.new,fun e he g hg => ?_⟩
  rcases uK he with rfl | ⟨h5,_⟩
  ·exact h1.own _ hmd g hg
  ·exact h1.own e h5 g hg
 rcases row_view (hi.heap.1 _ hm) with ⟨v,h2,h3,h4⟩ | ⟨v,g,us,h2,h3,h4,h5⟩
 ·refine ⟨μ,ρ,key μ ⟨hi.size,hi.defers,hi.env,hi.agr,hi.heap.sub fun e he => (ov he).1,hi.nms,hi.os,hi.tape,hi.output,hi.hsize,hi.block,hi.le,hi.new,fun e he => hi.own e (ov he).1⟩ fun u hu => ?_⟩
  rw [h2] at hu;rw [← Option.some.inj hu];exact h4 μ
 ·obtain ⟨h6,h7⟩ := hi.addMem hm h3 h4
  refine ⟨_,ρ,key _ h6 fun u hu => ?_⟩
  rw [h2] at hu;rw [← Option.some.inj hu];exact h5 h7
theorem WP.len {α : Type} {c : Code} {Q : Exit → St → Prop} (d : Nat) {k : Nat} {enc : α → List IV} {xs : List α} (h : lk σ d = some (.im (IV.view k enc xs))) (hw : xs.length ≤ 9223372036854775807 → WP C F nt c Q ⟨σ,H,fr⟩) : WP C F nt c Q ⟨σ,H,fr⟩ := fun μ ρ a w hi => by
 obtain ⟨A,n,_,h1,h2,_⟩ := oi.1 (hi.env d _ h)
 exact hw (by simp only [maxLen] at h2;omega) μ ρ a w hi
end
def env0 : Nat → List IV → Env
 | _,[] => []
 | i,s :: l => (i,.im s) :: env0 (i + 1) l
theorem qr : ∀ {l : List IV} {i : Nat} {t : Nat} {s : SV},lk (env0 i l) t = some s → ∃ j s',t = i + j ∧ l[j]? = some s' ∧ s = .im s'
 | [],i,t,s,h => by cases h
 | s0 :: l,i,t,s,h => by
  simp only [env0,lk] at h
  cases hb : Nat.beq i t with
  | true => rw [hb] at h;injection h with h;exact ⟨0,s0,by rw [← Nat.eq_of_beq_eq_true hb];rfl,rfl,h.symm⟩
  | false =>
   rw [hb] at h
   obtain ⟨j,s',h1,h2,h3⟩ := qr h
   exact ⟨j + 1,s',by omega,by simpa using h2,h3⟩
def RetOk (C : Cfg) (F : Fx) (nt : Nat) (fn : Func) (s : IV) (y : St) : Prop := ∀ μ ρ a w,Inv F nt y μ ρ a w → ∃ v μ',(results fn a.tmps).run C.P w = .ok v w ∧ s.p μ' v ∧ Mem.le F.μ0 μ' ∧ (∀ b,μ' b ≠ none → F.μ0 b ≠ none ∨ F.w0.heap.size ≤ b ∨ F.G b) ∧ Agr μ' w
def FnQ (C : Cfg) (F : Fx) (nt : Nat) (fn : Func) (s : IV) : Exit → St → Prop
 | .normal,y => RetOk C F nt fn s y
 | .ret,y => RetOk C F nt fn s y
 | _,_ => False
theorem Fn.of_wp {C : Cfg} {f : FuncId} {fn : Func} {c : Code} {args : List IV} {s : IV} (nt : Nat) (hf : C.P.funcs[f]? = some fn) (hb : fn.body = some c) (hname : (fn.name == "runtime.NumGoroutine") = false) (hnt : fn.ntmps = nt) (hn : Nat.ble args.length nt = true)
 (h : ∀ F : Fx,F.D = [] → (∀ g,¬ F.G g) → WP C F nt c (FnQ C F nt fn s) ⟨env0 0 args,[],0⟩) : Fn C f args s := by
 refine ⟨⟨fn,hf,by rw [hb];rfl,hname⟩,fun μ w vs hvs ha => ?_⟩
 have hlen := hvs.length
 refine calls_of_wp hf hb ((wpIn_wide (n := 9)).1 ?_)
 have hle := Nat.le_of_ble_eq_true hn
 have hi : Inv ⟨w,μ,fun _ => False,[],none⟩ nt ⟨env0 0 args,[],0⟩ μ (fun _ => none) { tmps := vs.toArray ++ Array.replicate (fn.ntmps - vs.toArray.size) undef,defers := [] } w := by
  refine ⟨by simp;omega,rfl,fun t s hs => ?_,ha,⟨(fun e he => by cases he),(fun e he => by cases he)⟩,fun i hi => absurd rfl hi,rfl,rfl,rfl,Nat.le_refl _,fun _ _ _ => rfl,Mem.le.refl _,fun b hb => .inl hb,(fun e he => by cases he)⟩
  obtain ⟨j,s',h1,h2,rfl⟩ := qr hs
  rw [Nat.zero_add] at h1
  subst h1
  obtain ⟨v,h3,h4⟩ := hvs.get h2
  have hj : t < vs.length := (List.getElem?_eq_some_iff.1 h3).1
  refine oi.2 ?_
  have : (vs.toArray ++ Array.replicate (fn.ntmps - vs.toArray.size) undef).getD t undef = v := by
   rw [Array.getD_eq_getD_getElem?,Array.getElem?_append_left (by simpa using hj)]
   simp [h3]
  rw [this];exact h4
 refine wpIn_mono (h ⟨w,μ,fun _ => False,[],none⟩ rfl (fun _ h => h) μ _ _ w hi) ?_
 rintro e a' w' ⟨y,μ',ρ',hq,hy⟩
 have key : RetOk C ⟨w,μ,fun _ => False,[],none⟩ nt fn s y → a'.defers = [] ∧ ∃ v,(results fn a'.tmps).run C.P w' = .ok v w' ∧ ∃ v_1 μ',Ending.returned v = .returned v_1 ∧ s.p μ' v_1 ∧ Stp μ w μ' w' := fun hr => by
  obtain ⟨v,ν,h1,h2,h3,h4,h5⟩ := hr μ' ρ' a' w' hy
  exact ⟨hy.defers,v,h1,v,ν,rfl,h2,⟨⟨hy.os,hy.tape,hy.output,hy.hsize,fun k hk => hy.block k hk (fun h => h)⟩,h3,fun b hb => (h4 b hb).imp id (fun hx => hx.elim id (fun hf => hf.elim)),h5⟩⟩
 cases e with
 | normal => exact key hq
 | ret => exact key hq
 | _ => exact hq.elim
section
variable {C : Cfg} {F : Fx} {nt : Nat} {fn : Func} {s : IV} {x y : St}
inductive ResV (C : Cfg) (y : St) : ResultVar → IV → Prop
 | tmp {t : Nat} {sv : SV} {s : IV} (h : lk y.σ t = some sv) (k : ImOf sv s) : ResV C y (.tmp t) s
 | cellI {t : Nat} {ty : TypeId} {dt : TyInf} {l : List IV} {sv : SV} {s : IV} (h : lk y.σ t = some (.im (IV.ptr l))) (ht : C.tt ty = some dt) (hl : ldI dt l = some sv) (k : ImOf sv s) : ResV C y (.cell t ty) s
 | cell {t i : Nat} {ty bt : TypeId} {dt : TyInf} {cs : List SV} {sv : SV} {s : IV} (h : lk y.σ t = some (.off i 0)) (hh : hget y.H i = some (.blk bt cs)) (ht : C.tt ty = some dt) (hl : ldS dt cs = some sv) (k : ImOf sv s) : ResV C y (.cell t ty) s
inductive ResVs (C : Cfg) (y : St) : List ResultVar → List IV → Prop
 | nil : ResVs C y [] []
 | cons {r : ResultVar} {s : IV} {l : List ResultVar} {l' : List IV} (h : ResV C y r s) (t : ResVs C y l l') : ResVs C y (r :: l) (s :: l')
def resOf (a : Act) : ResultVar → Sem Value
 | .tmp t => pure (a.tmps.getD t undef)
 | .cell b t => do loadVar t (← asAddr (a.tmps.getD b undef))
theorem ResV.run {μ : Mem} {ρ : Nms} {a : Act} {w : World} (hi : Inv F nt y μ ρ a w) {r : ResultVar} {s : IV} (h : ResV C y r s) : ∃ v,(resOf a r).run C.P w = .ok v w ∧ s.p μ v := by
 cases h with
 | tmp h k => exact ⟨_,rfl,k _ _ _ (hi.env _ _ h)⟩
 | @cellI t ty dt l sv s h ht hl k =>
  have h0 := oi.1 (hi.env _ _ h)
  obtain ⟨v,h8,h9⟩ := run_load_ptr (ρ := ρ) hi.agr (C.ok _ _ ht) hl h0
  obtain ⟨b,o,h2,_⟩ := h0
  refine ⟨v,?_,k _ _ _ h9⟩
  show (do loadVar ty (← asAddr (a.tmps.getD t undef)) : Sem Value).run C.P w = _
  rw [h2] at h8 ⊢
  exact h8
 | @cell t i ty bt dt cs sv s h hh ht hl k =>
  have h0 := hi.env _ _ h
  unfold SV.R at h0
  obtain ⟨g,h1,h2⟩ := h0
  obtain ⟨g',us,h3,h4,h5,h6,h7⟩ := hi.heap.1 _ (om hh)
  rw [h3] at h1
  simp only [Option.bind_some,blk,Option.some.injEq] at h1
  subst h1
  obtain ⟨v,h8,h9⟩ := j8 (ρ := ρ) (o := 0) (C.ok _ _ ht) h4 h5 h7 (by simpa using hl)
  refine ⟨v,?_,k _ _ _ h9⟩
  show (do loadVar ty (← asAddr (a.tmps.getD t undef)) : Sem Value).run C.P w = _
  rw [h2]
  exact h8
theorem ResVs.run {μ : Mem} {ρ : Nms} {a : Act} {w : World} (hi : Inv F nt y μ ρ a w) : ∀ {rs : List ResultVar} {ss : List IV},ResVs C y rs ss → ∃ vs : List Value,(rs.mapM (resOf a)).run C.P w = .ok vs w ∧ IVs μ ss vs
 | _,_,.nil => ⟨[],by simp,rfl⟩
 | _,_,.cons h t => by
  obtain ⟨v,h1,h2⟩ := h.run hi
  obtain ⟨vs,h3,h4⟩ := t.run hi
  exact ⟨v :: vs,by simp only [List.mapM_cons,Sem.run_bind,h1,Result.andThen_ok,h3,Sem.run_pure],v,vs,rfl,h2,h4⟩
theorem results_eq (fn : Func) (a : Act) : results fn a.tmps = (fn.results.mapM (resOf a) >>= fun vs => pure (if h : vs.size = 1 then vs[0] else .tuple vs)) := by
 unfold results
 congr 1
theorem yf {rs : List ResultVar} (hr : fn.results = rs.toArray) {a : Act} {w : World} {vs : List Value} (h : (rs.mapM (resOf a)).run C.P w = .ok vs w) : (results fn a.tmps).run C.P w = .ok (if h : vs.toArray.size = 1 then vs.toArray[0] else .tuple vs.toArray) w := by
 rw [results_eq,hr]
 have h2 : (rs.toArray.mapM (resOf a)).run C.P w = .ok vs.toArray w := by
  rw [List.mapM_toArray]
  simp [h]
 rw [Sem.run_bind,h2]
 simp only [Result.andThen_ok,Sem.run_pure]
theorem RetOk.one {r : ResultVar} (hr : fn.results = #[r]) (h : ResV C y r s) : RetOk C F nt fn s y := fun μ ρ a w hi => by
 obtain ⟨v,h1,h2⟩ := h.run hi
 refine ⟨v,μ,?_,h2,hi.le,hi.new,hi.agr⟩
 rw [yf (rs := [r]) (vs := [v]) hr (by simp [h1])]
 rfl
theorem RetOk.tup {rs : List ResultVar} {ss : List IV} (hr : fn.results = rs.toArray) (hl : Nat.beq rs.length 1 = false) (h : ResVs C y rs ss) : RetOk C F nt fn (IV.tup ss) y := fun μ ρ a w hi => by
 obtain ⟨vs,h1,h2⟩ := h.run hi
 refine ⟨.tuple vs.toArray,μ,?_,⟨vs,rfl,h2⟩,hi.le,hi.new,hi.agr⟩
 rw [yf hr h1]
 have h3 : vs.length = rs.length := by
  have h4 := h2.length
  have : ∀ {rs : List ResultVar} {ss : List IV},ResVs C y rs ss → rs.length = ss.length := by
   intro rs ss h
   induction h with
   | nil => rfl
   | cons _ _ ih => simp [ih]
  rw [h4,this h]
 rw [dif_neg]
 have := Nat.ne_of_beq_eq_false hl
 simpa [h3] using this
end
end Go.Proofs.YtjgmbgfcffnanaaGreatDoor
