/- A logic over the model: immutable memory, values that are read in it, names of what the call owns. Over any program. No condition. -/
import Derived.WalkKit
import Derived.WalkSpells
import Derived.WalkLawsBesides
import Derived.Handy
import Derived.Lib.Hide
import Derived.OrdersHeld
import Derived.Laws.AppendOwn
namespace Go.Proofs.Ytjgmbgfcffnanac
open Go.RowKit

/- the cells of blocks that never change -/
abbrev Mem := Nat → Option (Array Value)
def Mem.le (μ ν : Mem) : Prop := ∀ b cs, μ b = some cs → ν b = some cs
theorem Mem.le.refl (μ : Mem) : Mem.le μ μ := fun _ _ h => h
theorem Mem.le.trans {μ ν κ : Mem} (h : Mem.le μ ν) (k : Mem.le ν κ) : Mem.le μ κ := fun b cs e => k b cs (h b cs e)
def Agr (μ : Mem) (w : World) : Prop := ∀ b cs, μ b = some cs → ∃ t fz, w.heap[b]? = some (.cells cs t fz)
theorem Agr.lt {μ : Mem} {w : World} (h : Agr μ w) {b : Nat} (hb : μ b ≠ none) : b < w.heap.size := by
  cases e : μ b with
  | none => exact absurd e hb
  | some cs =>
    obtain ⟨t, fz, hh⟩ := h b cs e
    exact (Array.getElem?_eq_some_iff.1 hh).1

/- a value that is read in immutable memory -/
structure IV where
  p : Mem → Value → Prop
  mono : ∀ {μ ν : Mem} {v : Value}, Mem.le μ ν → p μ v → p ν v

def IVs (μ : Mem) : List IV → List Value → Prop
  | [], vs => vs = []
  | s :: l, vs => ∃ v vs', vs = v :: vs' ∧ s.p μ v ∧ IVs μ l vs'
theorem IVs.mono {μ ν : Mem} (h : Mem.le μ ν) : ∀ {l : List IV} {vs : List Value}, IVs μ l vs → IVs ν l vs
  | [], _, h0 => h0
  | s :: _, _, ⟨v, vs', e, h1, h2⟩ => ⟨v, vs', e, s.mono h h1, IVs.mono h h2⟩
theorem IVs.length {μ : Mem} : ∀ {l : List IV} {vs : List Value}, IVs μ l vs → vs.length = l.length
  | [], _, h => by cases h; rfl
  | _ :: _, _, ⟨v, vs', e, _, h2⟩ => by subst e; simp [IVs.length h2]
theorem IVs.get {μ : Mem} : ∀ {l : List IV} {vs : List Value}, IVs μ l vs → ∀ {j : Nat} {s : IV}, l[j]? = some s → ∃ v, vs[j]? = some v ∧ s.p μ v
  | [], _, _, j, s, hj => by simp at hj
  | s0 :: l, _, ⟨v, vs', e, h1, h2⟩, 0, s, hj => by subst e; simp at hj; subst hj; exact ⟨v, rfl, h1⟩
  | s0 :: l, _, ⟨v, vs', e, h1, h2⟩, j + 1, s, hj => by subst e; exact IVs.get h2 (by simpa using hj)

def IV.val (u : Value) : IV := ⟨fun _ v => v = u, fun _ h => h⟩
def IV.any : IV := ⟨fun _ _ => True, fun _ h => h⟩
abbrev IV.int (n : Int) : IV := IV.val (.int .i64 n)
abbrev IV.bool (b : Bool) : IV := IV.val (.bool b)
def One (vs : List Value) : Prop := ∀ u ∈ vs, u.oneCell' = true
def IV.agg (l : List IV) : IV := ⟨fun μ v => ∃ vs : List Value, v = .agg vs.toArray ∧ IVs μ l vs ∧ One vs, fun h ⟨vs, e, k, o⟩ => ⟨vs, e, k.mono h, o⟩⟩
def IV.tup (l : List IV) : IV := ⟨fun μ v => ∃ vs : List Value, v = .tuple vs.toArray ∧ IVs μ l vs, fun h ⟨vs, e, k⟩ => ⟨vs, e, k.mono h⟩⟩
def IV.fn (f : FuncId) (caps : List IV) : IV := ⟨fun μ v => ∃ vs : List Value, v = .func (.func f) #[] vs.toArray ∧ IVs μ caps vs, fun h ⟨vs, e, k⟩ => ⟨vs, e, k.mono h⟩⟩
def Cells (μ : Mem) (b o : Nat) (l : List IV) : Prop := ∀ j s, l[j]? = some s → ∃ cs v, μ b = some cs ∧ cs[o + j]? = some v ∧ s.p μ v ∧ v.oneCell' = true
theorem Cells.mono {μ ν : Mem} {b o : Nat} {l : List IV} (h : Mem.le μ ν) (k : Cells μ b o l) : Cells ν b o l := fun j s hj => by
  obtain ⟨cs, v, h1, h2, h3, h4⟩ := k j s hj
  exact ⟨cs, v, h _ _ h1, h2, s.mono h h3, h4⟩
theorem Cells.drop {μ : Mem} {b o : Nat} {l : List IV} (k : Cells μ b o l) (n : Nat) : Cells μ b (o + n) (l.drop n) := fun j s hj => by
  rw [List.getElem?_drop] at hj
  obtain ⟨cs, v, h1, h2, h3⟩ := k _ s hj
  exact ⟨cs, v, h1, by rw [Nat.add_assoc]; exact h2, h3⟩
def IV.ptr (l : List IV) : IV := ⟨fun μ v => ∃ b o, v = .pointer (some ⟨b, o, none⟩) ∧ Cells μ b o l, fun h ⟨b, o, e, k⟩ => ⟨b, o, e, k.mono h⟩⟩
def IV.view {α : Type} (k : Nat) (enc : α → List IV) (xs : List α) : IV :=
  ⟨fun μ v => ∃ A c, v = .slice A xs.length c ∧ xs.length ≤ c ∧ c ≤ maxLen ∧ (xs = [] ∨ ∃ b o, A = some ⟨b, o, none⟩ ∧ ∀ i x, xs[i]? = some x → Cells μ b (o + i * k) (enc x)),
   fun h ⟨A, c, e, l1, l2, k⟩ => ⟨A, c, e, l1, l2, k.imp id fun ⟨b, o, hA, k⟩ => ⟨b, o, hA, fun i x hx => (k i x hx).mono h⟩⟩⟩

/- a value in a slot: read in immutable memory, or by the name of what the call owns -/
inductive SV where
  | im (s : IV)
  | off (i o : Nat)
  | row (i n : Nat)
  | agg (l : List SV)
  | cnd (b : Bool) (s : SV)
  | fn (f : FuncId) (l : List SV)
  | is (u : Value) (s : SV)

abbrev Nms := Nat → Option Value
def blk : Value → Option Nat
  | .pointer (some ⟨g, 0, none⟩) => some g
  | .slice (some ⟨g, 0, none⟩) _ _ => some g
  | _ => none

mutual
def SV.R (ρ : Nms) (μ : Mem) : SV → Value → Prop
  | .im s, v => s.p μ v
  | .off i o, v => ∃ g, (ρ i).bind blk = some g ∧ v = .pointer (some ⟨g, o, none⟩)
  | .row i n, v => ρ i = some v ∧ ∃ A c, v = .slice A n c ∧ (n = 0 ∨ ∃ g, A = some ⟨g, 0, none⟩)
  | .agg l, v => ∃ vs : List Value, v = .agg vs.toArray ∧ SV.Rs ρ μ l vs ∧ One vs
  | .cnd b s, v => (b = true → SV.R ρ μ s v) ∧ (b = false → v = undef)
  | .fn f l, v => ∃ vs : List Value, v = .func (.func f) #[] vs.toArray ∧ SV.Rs ρ μ l vs
  | .is u s, v => v = u ∧ SV.R ρ μ s v
def SV.Rs (ρ : Nms) (μ : Mem) : List SV → List Value → Prop
  | [], vs => vs = []
  | s :: l, vs => ∃ v vs', vs = v :: vs' ∧ SV.R ρ μ s v ∧ SV.Rs ρ μ l vs'
end

def Nms.le (ρ ρ' : Nms) : Prop := ∀ i v, ρ i = some v → ρ' i = some v
theorem Nms.le.refl (ρ : Nms) : Nms.le ρ ρ := fun _ _ h => h
theorem Nms.le.trans {a b c : Nms} (h : Nms.le a b) (k : Nms.le b c) : Nms.le a c := fun i v e => k i v (h i v e)

mutual
theorem SV.R.mono {ρ ρ' : Nms} {μ ν : Mem} (hr : Nms.le ρ ρ') (h : Mem.le μ ν) : ∀ {s : SV} {v : Value}, SV.R ρ μ s v → SV.R ρ' ν s v
  | .im s, v, k => by unfold SV.R at k ⊢; exact s.mono h k
  | .off i o, v, k => by
    unfold SV.R at k ⊢
    obtain ⟨g, h1, h2⟩ := k
    cases e : ρ i with
    | none => rw [e] at h1; cases h1
    | some u => rw [e] at h1; exact ⟨g, by rw [hr i u e]; exact h1, h2⟩
  | .row i n, v, k => by unfold SV.R at k ⊢; exact ⟨hr _ _ k.1, k.2⟩
  | .agg l, v, k => by unfold SV.R at k ⊢; obtain ⟨vs, e, k, o⟩ := k; exact ⟨vs, e, SV.Rs.mono hr h k, o⟩
  | .cnd b s, v, k => by unfold SV.R at k ⊢; exact ⟨fun hb => SV.R.mono hr h (k.1 hb), k.2⟩
  | .fn f l, v, k => by unfold SV.R at k ⊢; obtain ⟨vs, e, k⟩ := k; exact ⟨vs, e, SV.Rs.mono hr h k⟩
  | .is u s, v, k => by unfold SV.R at k ⊢; exact ⟨k.1, SV.R.mono hr h k.2⟩
theorem SV.Rs.mono {ρ ρ' : Nms} {μ ν : Mem} (hr : Nms.le ρ ρ') (h : Mem.le μ ν) : ∀ {l : List SV} {vs : List Value}, SV.Rs ρ μ l vs → SV.Rs ρ' ν l vs
  | [], _, k => by unfold SV.Rs at k ⊢; exact k
  | s :: l, _, k => by unfold SV.Rs at k ⊢; obtain ⟨v, vs', e, h1, h2⟩ := k; exact ⟨v, vs', e, SV.R.mono hr h h1, SV.Rs.mono hr h h2⟩
end
theorem SV.Rs.length {ρ : Nms} {μ : Mem} : ∀ {l : List SV} {vs : List Value}, SV.Rs ρ μ l vs → vs.length = l.length
  | [], _, h => by unfold SV.Rs at h; cases h; rfl
  | _ :: _, _, h => by unfold SV.Rs at h; obtain ⟨v, vs', e, _, h2⟩ := h; subst e; simp [SV.Rs.length h2]
theorem SV.Rs.get {ρ : Nms} {μ : Mem} : ∀ {l : List SV} {vs : List Value}, SV.Rs ρ μ l vs → ∀ {j : Nat} {s : SV}, l[j]? = some s → ∃ v, vs[j]? = some v ∧ SV.R ρ μ s v
  | [], _, _, j, s, hj => by simp at hj
  | s0 :: l, _, h, 0, s, hj => by unfold SV.Rs at h; obtain ⟨v, vs', e, h1, _⟩ := h; subst e; simp at hj; subst hj; exact ⟨v, rfl, h1⟩
  | s0 :: l, _, h, j + 1, s, hj => by unfold SV.Rs at h; obtain ⟨v, vs', e, _, h2⟩ := h; subst e; exact SV.Rs.get h2 (by simpa using hj)
theorem SV.Rs.im {ρ : Nms} {μ : Mem} : ∀ {l : List IV} {vs : List Value}, SV.Rs ρ μ (l.map SV.im) vs ↔ IVs μ l vs
  | [], vs => by simp [SV.Rs, IVs]
  | s :: l, vs => by
    simp only [List.map_cons]
    unfold SV.Rs IVs
    constructor
    · rintro ⟨v, vs', e, h1, h2⟩; unfold SV.R at h1; exact ⟨v, vs', e, h1, SV.Rs.im.1 h2⟩
    · rintro ⟨v, vs', e, h1, h2⟩; exact ⟨v, vs', e, by unfold SV.R; exact h1, SV.Rs.im.2 h2⟩
theorem SV.Rs.set {ρ : Nms} {μ : Mem} {s : SV} {v : Value} (h1 : SV.R ρ μ s v) : ∀ {l : List SV} {vs : List Value}, SV.Rs ρ μ l vs → ∀ (j : Nat), SV.Rs ρ μ (l.set j s) (vs.set j v)
  | [], _, h, j => by unfold SV.Rs at h; subst h; simp [SV.Rs]
  | s0 :: l, _, h, 0 => by unfold SV.Rs at h; obtain ⟨u, vs', e, _, h2⟩ := h; subst e; simp only [List.set_cons_zero]; unfold SV.Rs; exact ⟨v, vs', rfl, h1, h2⟩
  | s0 :: l, _, h, j + 1 => by unfold SV.Rs at h; obtain ⟨u, vs', e, hu, h2⟩ := h; subst e; simp only [List.set_cons_succ]; unfold SV.Rs; exact ⟨u, _, rfl, hu, SV.Rs.set h1 h2 j⟩

/- what the call owns -/
inductive HObj : Type 1 where
  | blk (t : TypeId) (cs : List SV)
  | row (t k : Nat) {α : Type} (enc : α → List IV) (xs : List α)

def IvFlat {α : Type} (μ : Mem) (enc : α → List IV) (xs : List α) (us : List Value) : Prop := IVs μ (xs.flatMap enc) us

abbrev Ent := Nat × HObj
def EntOk (ρ : Nms) (μ : Mem) (w : World) : Ent → Prop
  | (i, .blk t cs) => ∃ g us, ρ i = some (.pointer (some ⟨g, 0, none⟩)) ∧ w.heap[g]? = some (.cells us t (0, 0)) ∧ SV.Rs ρ μ cs us.toList ∧ μ g = none ∧ One us.toList
  | (i, .row t k enc xs) => ∃ v us, ρ i = some v ∧ w.ownsRow 0 t k v xs.length us ∧ IvFlat μ enc xs us ∧ (∀ x, (enc x).length = k) ∧ (∀ g, v.ownBlock = some g → μ g = none) ∧ One us
def eb (ρ : Nms) (e : Ent) : Option Nat := (ρ e.1).bind blk
def HeapOk (ρ : Nms) (μ : Mem) (w : World) (H : List Ent) : Prop := (∀ e ∈ H, EntOk ρ μ w e) ∧ ∀ e ∈ H, ∀ e' ∈ H, e.1 ≠ e'.1 → ∀ g, eb ρ e = some g → eb ρ e' ≠ some g

/- a step that makes memory and changes none -/
structure Stp (μ : Mem) (w : World) (μ' : Mem) (w' : World) : Prop where
  below : Below w.heap.size w w'
  le : Mem.le μ μ'
  new : ∀ b, μ' b ≠ none → μ b ≠ none ∨ w.heap.size ≤ b
  agr : Agr μ' w'
theorem Stp.refl {μ : Mem} {w : World} (h : Agr μ w) : Stp μ w μ w := ⟨Below.refl _ _, Mem.le.refl _, fun _ h => .inl h, h⟩
theorem Stp.trans {μ ν κ : Mem} {a b c : World} (h : Stp μ a ν b) (k : Stp ν b κ c) : Stp μ a κ c :=
  ⟨h.below.trans (k.below.mono h.below.size), h.le.trans k.le, fun x hx => (k.new x hx).elim (fun hy => h.new x hy) (fun hy => .inr (Nat.le_trans h.below.size hy)), k.agr⟩
theorem Stp.none {μ ν : Mem} {a b : World} (h : Stp μ a ν b) {g : Nat} (hg : g < a.heap.size) (h0 : μ g = none) : ν g = none := by
  cases e : ν g with
  | none => rfl
  | some cs =>
    rcases h.new g (by rw [e]; simp) with h1 | h1
    · exact absurd h0 h1
    · omega

theorem ownBlock_blk {v : Value} {g : Nat} (h : v.ownBlock = some g) : ∃ A n c, v = .slice A n c := by
  cases v <;> simp [Value.ownBlock] at h
  exact ⟨_, _, _, rfl⟩

theorem ownsRow_blk {w : World} {B : Nat} {e : TypeId} {k : Nat} {v : Value} {n : Nat} {us : List Value} (h : w.ownsRow B e k v n us) : blk v = v.ownBlock := by
  rcases h.2 with ⟨rfl, _⟩ | ⟨g, cap, cur, rfl, _⟩
  · rfl
  · rfl
theorem ownsRow_lt {w : World} {B : Nat} {e : TypeId} {k : Nat} {v : Value} {n : Nat} {us : List Value} (h : w.ownsRow B e k v n us) {g : Nat} (hg : v.ownBlock = some g) : g < w.heap.size := (World.ownsRow.lt h g hg).2
theorem ownsRow_same {w w' : World} {B : Nat} {e : TypeId} {k : Nat} {v : Value} {n : Nat} {us : List Value} (h : w.ownsRow B e k v n us) (hs : ∀ g, v.ownBlock = some g → w'.heap[g]? = w.heap[g]?) : w'.ownsRow B e k v n us := by
  obtain ⟨h1, h2⟩ := h
  refine ⟨h1, ?_⟩
  rcases h2 with h2 | ⟨g, cap, cur, hv, hg, hh, r⟩
  · exact .inl h2
  · exact .inr ⟨g, cap, cur, hv, hg, (hs g (by subst hv; rfl)).trans hh, r⟩

/- an entry's own block -/
theorem EntOk.lt {ρ : Nms} {μ : Mem} {w : World} {e : Ent} (h : EntOk ρ μ w e) {g : Nat} (hg : eb ρ e = some g) : g < w.heap.size ∧ μ g = none := by
  obtain ⟨i, o⟩ := e
  cases o with
  | blk t cs =>
    obtain ⟨g', us, h1, h2, _, h4, _⟩ := h
    simp only [eb, h1, Option.bind_some, blk, Option.some.injEq] at hg
    subst hg
    exact ⟨(Array.getElem?_eq_some_iff.1 h2).1, h4⟩
  | row t k enc xs =>
    obtain ⟨v, us, h1, h2, _, _, h4, _⟩ := h
    simp only [eb, h1, Option.bind_some] at hg
    rw [ownsRow_blk h2] at hg
    exact ⟨ownsRow_lt h2 hg, h4 g hg⟩
theorem EntOk.keep {ρ ρ' : Nms} {μ μ' : Mem} {w w' : World} {e : Ent} (h : EntOk ρ μ w e) (hr : Nms.le ρ ρ') (hm : Mem.le μ μ') (hb : ∀ g, eb ρ e = some g → w'.heap[g]? = w.heap[g]? ∧ μ' g = none) : EntOk ρ' μ' w' e := by
  obtain ⟨i, o⟩ := e
  cases o with
  | blk t cs =>
    obtain ⟨g, us, h1, h2, h3, h4, h6⟩ := h
    have := hb g (by simp [eb, h1, blk])
    exact ⟨g, us, hr _ _ h1, this.1.trans h2, h3.mono hr hm, this.2, h6⟩
  | row t k enc xs =>
    obtain ⟨v, us, h1, h2, h3, h5, h4, h6⟩ := h
    have h0 : ∀ g, v.ownBlock = some g → w'.heap[g]? = w.heap[g]? ∧ μ' g = none := fun g hg => hb g (by simp only [eb, h1, Option.bind_some]; rw [ownsRow_blk h2]; exact hg)
    exact ⟨v, us, hr _ _ h1, ownsRow_same h2 fun g hg => (h0 g hg).1, h3.mono hm, h5, fun g hg => (h0 g hg).2, h6⟩
theorem eb_le {ρ ρ' : Nms} (hr : Nms.le ρ ρ') {e : Ent} (h : ρ e.1 ≠ none) : eb ρ' e = eb ρ e := by
  unfold eb
  cases k : ρ e.1 with
  | none => exact absurd k h
  | some v => rw [hr _ _ k]
theorem EntOk.named {ρ : Nms} {μ : Mem} {w : World} {e : Ent} (h : EntOk ρ μ w e) : ρ e.1 ≠ none := by
  obtain ⟨i, o⟩ := e
  cases o with
  | blk t cs => obtain ⟨g, us, h1, _⟩ := h; simp [h1]
  | row t k enc xs => obtain ⟨v, us, h1, _⟩ := h; simp [h1]
theorem HeapOk.keep {ρ ρ' : Nms} {μ μ' : Mem} {w w' : World} {H : List Ent} (h : HeapOk ρ μ w H) (hr : Nms.le ρ ρ') (hm : Mem.le μ μ') (hb : ∀ e ∈ H, ∀ g, eb ρ e = some g → w'.heap[g]? = w.heap[g]? ∧ μ' g = none) : HeapOk ρ' μ' w' H :=
  ⟨fun e he => (h.1 e he).keep hr hm (hb e he), fun e he e' he' hne g hg => by rw [eb_le hr (h.1 e' he').named]; rw [eb_le hr (h.1 e he).named] at hg; exact h.2 e he e' he' hne g hg⟩
theorem HeapOk.sub {ρ : Nms} {μ : Mem} {w : World} {H H' : List Ent} (h : HeapOk ρ μ w H) (hs : ∀ e ∈ H', e ∈ H) : HeapOk ρ μ w H' := ⟨fun e he => h.1 e (hs e he), fun e he e' he' => h.2 e (hs e he) e' (hs e' he')⟩
theorem HeapOk.stp {ρ : Nms} {μ μ' : Mem} {w w' : World} {H : List Ent} (h : HeapOk ρ μ w H) (hs : Stp μ w μ' w') : HeapOk ρ μ' w' H :=
  h.keep (Nms.le.refl _) hs.le fun e he g hg => by
    obtain ⟨h1, h2⟩ := (h.1 e he).lt hg
    exact ⟨hs.below.block g h1, hs.none h1 h2⟩

/- the slots -/
abbrev Env := List (Nat × SV)
def lk : Env → Nat → Option SV
  | [], _ => none
  | (d, s) :: σ, t => match Nat.beq d t with
    | true => some s
    | false => lk σ t
def bnd (d : Option Tmp) (s : SV) (σ : Env) : Env := match d with
  | some d => (d, s) :: σ
  | none => σ
def EnvOk (ρ : Nms) (μ : Mem) (σ : Env) (ts : Array Value) : Prop := ∀ t s, lk σ t = some s → SV.R ρ μ s (ts.getD t undef)
theorem EnvOk.mono {ρ ρ' : Nms} {μ ν : Mem} {σ : Env} {ts : Array Value} (hr : Nms.le ρ ρ') (h : Mem.le μ ν) (k : EnvOk ρ μ σ ts) : EnvOk ρ' ν σ ts := fun t s e => (k t s e).mono hr h
theorem getD_set (ts : Array Value) (d t : Nat) (v u : Value) (h : d < ts.size) : (ts.setIfInBounds d v).getD t u = if d = t then v else ts.getD t u := by
  simp only [Array.getD_eq_getD_getElem?, Array.getElem?_setIfInBounds]
  by_cases e : d = t
  · subst e; simp [h]
  · simp [e]
theorem EnvOk.bnd {ρ : Nms} {μ : Mem} {σ : Env} {a : Act} {d : Option Tmp} {s : SV} {v : Value} (k : EnvOk ρ μ σ a.tmps) (hd : ∀ x, d = some x → x < a.tmps.size) (hs : SV.R ρ μ s v) : EnvOk ρ μ (Go.Proofs.Ytjgmbgfcffnanac.bnd d s σ) (a.put d v).tmps := by
  cases d with
  | none => exact k
  | some d =>
    intro t s' e
    show SV.R ρ μ s' ((a.tmps.setIfInBounds d v).getD t undef)
    rw [getD_set _ _ _ _ _ (hd d rfl)]
    simp only [Go.Proofs.Ytjgmbgfcffnanac.bnd, lk] at e
    cases hb : Nat.beq d t with
    | true =>
      rw [hb] at e
      have := Nat.eq_of_beq_eq_true hb
      rw [if_pos this]
      injection e with e; subst e; exact hs
    | false =>
      rw [hb] at e
      have : d ≠ t := Nat.ne_of_beq_eq_false hb
      rw [if_neg this]
      exact k t s' e

structure St : Type 1 where
  σ : Env
  H : List Ent
  fr : Nat

end Go.Proofs.Ytjgmbgfcffnanac
