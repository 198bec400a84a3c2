/- The logic's steps: operations, lists of operations, code. Over any program. No condition. -/
import Derived.Test.YtjgmbgfcffnanacLog1
import Derived.LoopN
namespace Go.Proofs.Ytjgmbgfcffnanac
open Go.RowKit

structure TyInf where
  und : TypeDesc
  zero : Value
  size : Nat
  bytes : Nat
def TyIs (P : Program) (t : TypeId) (d : TyInf) : Prop := P.underlying t = some d.und ∧ ∃ i, P.info? t = some i ∧ i.zero = some d.zero ∧ i.size = d.size ∧ i.bytes = d.bytes
structure Cfg where
  P : Program
  tt : TypeId → Option TyInf
  ok : ∀ t d, tt t = some d → TyIs P t d
  mixed : P.follows .mixedOrders = true

def looks (o : Oper) : List Tmp := o.op.operands.toList.filterMap fun | .tmp t => some t | _ => none
def LookOk (ρ : Nms) (μ : Mem) (σ : Env) (o : Oper) (a : Act) : Prop := ∀ t ∈ looks o, ∀ s, lk σ t = some s → SV.R ρ μ s (a.tmps.getD t undef)
theorem EnvOk.look {ρ : Nms} {μ : Mem} {σ : Env} {a : Act} (h : EnvOk ρ μ σ a.tmps) (o : Oper) : LookOk ρ μ σ o a := fun t _ s hs => h t s hs
def NoExit : Exit → Act → World → Prop := fun _ _ _ => False
theorem noLets : ¬ LetsOut NoExit := fun ⟨_, _, h⟩ => h
def upd (ρ : Nms) (i : Nat) (v : Value) : Nms := fun j => if j = i then some v else ρ j
theorem upd_le {ρ : Nms} {i : Nat} {v : Value} (h : ρ i = none) : Nms.le ρ (upd ρ i v) := fun j u hj => by
  unfold upd
  by_cases e : j = i
  · subst e; rw [h] at hj; cases hj
  · rw [if_neg e]; exact hj
theorem upd_at (ρ : Nms) (i : Nat) (v : Value) : upd ρ i v i = some v := if_pos rfl

/- a step that may turn what the call owns -/
structure EStp (ρ : Nms) (H : List Ent) (μ : Mem) (w : World) (ρ' : Nms) (H' : List Ent) (μ' : Mem) (w' : World) : Prop where
  os : w'.os = w.os
  tape : w'.tape = w.tape
  output : w'.output = w.output
  size : w.heap.size ≤ w'.heap.size
  block : ∀ k, k < w.heap.size → (∀ e ∈ H, eb ρ e ≠ some k) → w'.heap[k]? = w.heap[k]?
  le : Mem.le μ μ'
  new : ∀ b, μ' b ≠ none → μ b ≠ none ∨ w.heap.size ≤ b ∨ ∃ e ∈ H, eb ρ e = some b
  agr : Agr μ' w'
  own : ∀ e ∈ H', ∀ g, eb ρ' e = some g → (∃ e0 ∈ H, eb ρ e0 = some g) ∨ w.heap.size ≤ g

section
variable (C : Cfg)
def OpN (o : Oper) (σ : Env) (s : SV) : Prop := ∀ ρ μ a w, LookOk ρ μ σ o a → Agr μ w →
  o.wp C.P a w (fun a' w' => ∃ v μ', a' = a.put o.dst v ∧ SV.R ρ μ' s v ∧ Stp μ w μ' w') NoExit
def OpA (o : Oper) (σ : Env) (fr : Nat) (s : SV) (x : HObj) : Prop := ∀ ρ μ a w, LookOk ρ μ σ o a → Agr μ w → ρ fr = none →
  o.wp C.P a w (fun a' w' => ∃ v μ', a' = a.put o.dst v ∧ SV.R (upd ρ fr v) μ' s v ∧ EntOk (upd ρ fr v) μ' w' (fr, x) ∧ (∀ g, blk v = some g → w.heap.size ≤ g) ∧ Stp μ w μ' w') NoExit
def OpE (o : Oper) (σ : Env) (H : List Ent) (fr : Nat) (s : SV) (H' : List Ent) (fr' : Nat) : Prop := ∀ ρ μ a w, LookOk ρ μ σ o a → Agr μ w → HeapOk ρ μ w H → (∀ i, fr ≤ i → i < fr' → ρ i = none) →
  o.wp C.P a w (fun a' w' => ∃ v μ' ρ', a' = a.put o.dst v ∧ SV.R ρ' μ' s v ∧ HeapOk ρ' μ' w' H' ∧ Nms.le ρ ρ' ∧ (∀ i, ρ' i ≠ none → ρ i ≠ none ∨ (fr ≤ i ∧ i < fr')) ∧ EStp ρ H μ w ρ' H' μ' w') NoExit

def OpR (o : Oper) (σ : Env) (H : List Ent) (s : SV) : Prop := ∀ ρ μ a w, LookOk ρ μ σ o a → Agr μ w → HeapOk ρ μ w H →
  o.wp C.P a w (fun a' w' => ∃ v μ', a' = a.put o.dst v ∧ SV.R ρ μ' s v ∧ Stp μ w μ' w') NoExit

def dok (nt : Nat) (o : Oper) : Bool := match o.dst with
  | some d => Nat.blt d nt
  | none => true
theorem dok_lt {nt : Nat} {o : Oper} (h : dok nt o = true) : ∀ d, o.dst = some d → d < nt := by
  intro d e
  simp only [dok, e] at h
  exact (Nat.blt_eq ▸ h : d < nt)
def gd : Bool → Bool → Bool
  | true, c => c
  | false, c => !c
theorem gd_true {b c : Bool} : gd b c = true ↔ c = b := by cases b <;> cases c <;> simp [gd]

def yv : Value → Option Bool
  | .bool b => some b
  | _ => none
/- does a guard's slot say yes? -/
def Gq (s : SV) (b q : Bool) : Prop := ∀ ρ μ v, SV.R ρ μ s v → (yv v == some b) = q
theorem gq_im {b c : Bool} : Gq (.im (IV.bool c)) b (gd b c) := fun ρ μ v h => by
  unfold SV.R at h
  rw [show v = .bool c from h]
  cases b <;> cases c <;> rfl
theorem gq_cnd {g b c : Bool} : Gq (.cnd g (.im (IV.bool c))) b (g && gd b c) := fun ρ μ v h => by
  unfold SV.R at h
  cases g with
  | true => exact gq_im ρ μ v (h.1 rfl)
  | false => rw [h.2 rfl]; rfl
/- the operation is surely done -/
def Yes (ops : Array Oper) (o : Oper) (σ : Env) : Prop := o.guard = none ∨ ∃ j d b s0, o.guard = some (j, b) ∧ (ops[j]?).bind (·.dst) = some d ∧ lk σ d = some s0 ∧ Gq s0 b true
inductive Step1 (ops : Array Oper) (nt : Nat) : Nat → Oper → St → SV → St → Prop
  | n {o : Oper} {x : St} {s : SV} (hg : Yes ops o x.σ) (hd : dok nt o = true) (h : OpN C o x.σ s) : Step1 ops nt 0 o x s ⟨bnd o.dst s x.σ, x.H, x.fr⟩
  | g {o : Oper} {x : St} {s s0 : SV} {j d : Nat} {b q : Bool} (hg : o.guard = some (j, b)) (hj : (ops[j]?).bind (·.dst) = some d) (hc : lk x.σ d = some s0) (hq : Gq s0 b q) (hd : dok nt o = true) (h : q = true → OpN C o x.σ s) :
      Step1 ops nt 0 o x (.cnd q s) ⟨bnd o.dst (.cnd q s) x.σ, x.H, x.fr⟩
  | r {o : Oper} {x : St} {s : SV} (hg : Yes ops o x.σ) (hd : dok nt o = true) (h : OpR C o x.σ x.H s) : Step1 ops nt 3 o x s ⟨bnd o.dst s x.σ, x.H, x.fr⟩
  | rg {o : Oper} {x : St} {s s0 : SV} {j d : Nat} {b q : Bool} (hg : o.guard = some (j, b)) (hj : (ops[j]?).bind (·.dst) = some d) (hc : lk x.σ d = some s0) (hq : Gq s0 b q) (hd : dok nt o = true) (h : q = true → OpR C o x.σ x.H s) :
      Step1 ops nt 3 o x (.cnd q s) ⟨bnd o.dst (.cnd q s) x.σ, x.H, x.fr⟩
  | a {o : Oper} {x : St} {s : SV} {ob : HObj} (hg : Yes ops o x.σ) (hd : dok nt o = true) (h : OpA C o x.σ x.fr s ob) : Step1 ops nt 1 o x s ⟨bnd o.dst s x.σ, (x.fr, ob) :: x.H, x.fr + 1⟩
  | e {o : Oper} {x : St} {s : SV} {H' : List Ent} {fr' : Nat} (hg : Yes ops o x.σ) (hd : dok nt o = true) (hf : x.fr ≤ fr') (h : OpE C o x.σ x.H x.fr s H' fr') : Step1 ops nt 2 o x s ⟨bnd o.dst s x.σ, H', fr'⟩

inductive AL (ops : Array Oper) (nt : Nat) : List Nat → List Oper → St → List SV → St → Prop
  | nil {x : St} : AL ops nt [] [] x [] x
  | cons {k : Nat} {o : Oper} {x y z : St} {s : SV} {ks : List Nat} {l : List Oper} {ss : List SV} (h : Step1 C ops nt k o x s y) (t : AL ops nt ks l y ss z) : AL ops nt (k :: ks) (o :: l) x (s :: ss) z
end

/- what stands fixed in a body: the world and the memory at its begin, the blocks that it may turn, its deferred calls -/
structure Fx where
  w0 : World
  μ0 : Mem
  G : Nat → Prop
  D : List Deferred

structure Inv (F : Fx) (nt : Nat) (x : St) (μ : Mem) (ρ : Nms) (a : Act) (w : World) : Prop where
  size : a.tmps.size = nt
  defers : a.defers = F.D
  env : EnvOk ρ μ x.σ a.tmps
  agr : Agr μ w
  heap : HeapOk ρ μ w x.H
  nms : ∀ i, ρ i ≠ none → i < x.fr
  os : w.os = F.w0.os
  tape : w.tape = F.w0.tape
  output : w.output = F.w0.output
  hsize : F.w0.heap.size ≤ w.heap.size
  block : ∀ k, k < F.w0.heap.size → ¬ F.G k → w.heap[k]? = F.w0.heap[k]?
  le : Mem.le F.μ0 μ
  new : ∀ b, μ b ≠ none → F.μ0 b ≠ none ∨ F.w0.heap.size ≤ b ∨ F.G b
  own : ∀ e ∈ x.H, ∀ g, eb ρ e = some g → F.G g ∨ F.w0.heap.size ≤ g

theorem put_size (a : Act) (d : Option Tmp) (v : Value) : (a.put d v).tmps.size = a.tmps.size := by cases d <;> simp [Act.put]
theorem put_defers (a : Act) (d : Option Tmp) (v : Value) : (a.put d v).defers = a.defers := by cases d <;> rfl

section
variable {C : Cfg} {F : Fx} {nt : Nat} {x y : St} {μ μ' : Mem} {ρ ρ' : Nms} {a : Act} {w w' : World}

theorem Inv.stp (h : Inv F nt x μ ρ a w) (hs : Stp μ w μ' w') : Inv F nt x μ' ρ a w' :=
  ⟨h.size, h.defers, h.env.mono (Nms.le.refl _) hs.le, hs.agr, h.heap.stp hs, h.nms, hs.below.os.trans h.os, hs.below.tape.trans h.tape, hs.below.output.trans h.output,
   Nat.le_trans h.hsize hs.below.size, fun k hk hg => (hs.below.block k (Nat.lt_of_lt_of_le hk h.hsize)).trans (h.block k hk hg), h.le.trans hs.le,
   fun b hb => (hs.new b hb).elim (h.new b) (fun hle => .inr (.inl (Nat.le_trans h.hsize hle))), h.own⟩
theorem Inv.bnd (h : Inv F nt x μ ρ a w) {d : Option Tmp} {s : SV} {v : Value} (hd : ∀ t, d = some t → t < nt) (hs : SV.R ρ μ s v) : Inv F nt ⟨Go.Proofs.Ytjgmbgfcffnanac.bnd d s x.σ, x.H, x.fr⟩ μ ρ (a.put d v) w :=
  ⟨(put_size _ _ _).trans h.size, (put_defers _ _ _).trans h.defers, h.env.bnd (by rw [h.size]; exact hd) hs, h.agr, h.heap, h.nms, h.os, h.tape, h.output, h.hsize, h.block, h.le, h.new, h.own⟩
theorem Inv.new1 (h : Inv F nt x μ ρ a w) {v : Value} {ob : HObj} (hs : Stp μ w μ' w') (he : EntOk (upd ρ x.fr v) μ' w' (x.fr, ob)) (hb : ∀ g, blk v = some g → w.heap.size ≤ g) : Inv F nt ⟨x.σ, (x.fr, ob) :: x.H, x.fr + 1⟩ μ' (upd ρ x.fr v) a w' := by
  have h0 : ρ x.fr = none := by
    cases e : ρ x.fr with
    | none => rfl
    | some u => exact absurd (h.nms x.fr (by rw [e]; simp)) (Nat.lt_irrefl _)
  have h2 := h.stp hs
  have hle := upd_le (v := v) h0
  have heb : eb (upd ρ x.fr v) (x.fr, ob) = blk v := by unfold eb; rw [upd_at]; rfl
  have hold : ∀ e ∈ x.H, eb (upd ρ x.fr v) e = eb ρ e := fun e he => eb_le hle (h.heap.1 e he).named
  have hH := h2.heap.keep hle (Mem.le.refl _) (fun e he g hg => ⟨rfl, ((h2.heap.1 e he).lt hg).2⟩)
  refine ⟨h2.size, h2.defers, h2.env.mono hle (Mem.le.refl _), h2.agr, ⟨?_, ?_⟩, ?_, h2.os, h2.tape, h2.output, h2.hsize, h2.block, h2.le, h2.new, ?_⟩
  · intro e hm
    rcases List.mem_cons.1 hm with rfl | hm
    · exact he
    · exact hH.1 e hm
  · have key : ∀ e ∈ x.H, ∀ g, blk v = some g → eb (upd ρ x.fr v) e ≠ some g := fun e hm g hg hg2 => by
      have h3 := hb g hg
      rw [hold e hm] at hg2
      have h4 := ((h.heap.1 e hm).lt hg2).1
      omega
    intro e hm e' hm' hne g hg hg2
    rcases List.mem_cons.1 hm with rfl | hm
    · rcases List.mem_cons.1 hm' with rfl | hm'
      · exact hne rfl
      · rw [heb] at hg; exact key e' hm' g hg hg2
    · rcases List.mem_cons.1 hm' with rfl | hm'
      · rw [heb] at hg2; exact key e hm g hg2 hg
      · exact hH.2 e hm e' hm' hne g hg hg2
  · intro i hi
    show i < x.fr + 1
    unfold upd at hi
    by_cases e : i = x.fr
    · omega
    · rw [if_neg e] at hi; have := h.nms i hi; omega
  · intro e hm g hg
    rcases List.mem_cons.1 hm with rfl | hm
    · rw [heb] at hg; exact .inr (Nat.le_trans h.hsize (hb g hg))
    · rw [hold e hm] at hg; exact h.own e hm g hg
theorem Inv.estp (h : Inv F nt x μ ρ a w) {H' : List Ent} {fr' : Nat} (hf : x.fr ≤ fr') (hH : HeapOk ρ' μ' w' H') (hr : Nms.le ρ ρ') (hn : ∀ i, ρ' i ≠ none → ρ i ≠ none ∨ (x.fr ≤ i ∧ i < fr')) (hs : EStp ρ x.H μ w ρ' H' μ' w') : Inv F nt ⟨x.σ, H', fr'⟩ μ' ρ' a w' := by
  refine ⟨h.size, h.defers, h.env.mono hr hs.le, hs.agr, hH, ?_, hs.os.trans h.os, hs.tape.trans h.tape, hs.output.trans h.output, Nat.le_trans h.hsize hs.size, ?_, h.le.trans hs.le, ?_, ?_⟩
  · intro i hi
    show i < fr'
    rcases hn i hi with h1 | h1
    · have := h.nms i h1; omega
    · exact h1.2
  · intro k hk hg
    refine (hs.block k (Nat.lt_of_lt_of_le hk h.hsize) fun e he hee => ?_).trans (h.block k hk hg)
    rcases h.own e he k hee with h1 | h1
    · exact hg h1
    · omega
  · intro b hb
    rcases hs.new b hb with h1 | h1 | ⟨e, he, h1⟩
    · exact h.new b h1
    · exact .inr (.inl (Nat.le_trans h.hsize h1))
    · exact .inr ((h.own e he b h1).symm)
  · intro e he g hg
    rcases hs.own e he g hg with ⟨e0, h0, h1⟩ | h1
    · exact h.own e0 h0 g h1
    · exact .inr (Nat.le_trans h.hsize h1)

theorem yielded_of {ops : Array Oper} {j d : Nat} (hj : (ops[j]?).bind (·.dst) = some d) : yielded ops a.tmps j = yv (a.tmps.getD d undef) := by
  unfold yielded
  rw [hj, Option.bind_some, Array.getD_eq_getD_getElem?]
  cases h : a.tmps[d]? with
  | none => rfl
  | some v => cases v <;> rfl

/- one operation -/
def Next1 (C : Cfg) (ops : Array Oper) (o : Oper) (a : Act) (w : World) (K : Act → World → Prop) : Prop :=
  if Region.wanted o (yielded ops a.tmps) then o.wp C.P a w K NoExit else K (a.put o.dst undef) w
theorem Yes.wanted {ops : Array Oper} {o : Oper} (h : Yes ops o x.σ) (hl : ∀ j d b s0, o.guard = some (j, b) → (ops[j]?).bind (·.dst) = some d → lk x.σ d = some s0 → SV.R ρ μ s0 (a.tmps.getD d undef)) : Region.wanted o (yielded ops a.tmps) = true := by
  rcases h with hg | ⟨j, d, b, s0, hg, hj, hc, hq⟩
  · simp [Region.wanted, hg]
  · simp only [Region.wanted, hg]
    rw [yielded_of hj]
    exact hq ρ μ _ (hl j d b s0 hg hj hc)
theorem Step1.sound {ops : Array Oper} {k : Nat} {o : Oper} {s : SV} (h : Step1 C ops nt k o x s y) (hi : Inv F nt x μ ρ a w) : Next1 C ops o a w (fun a' w' => ∃ μ' ρ', Inv F nt y μ' ρ' a' w') := by
  cases h with
  | n hg hd h =>
    unfold Next1
    rw [if_pos (hg.wanted (ρ := ρ) (μ := μ) fun j d b s0 _ _ hc => hi.env d _ hc)]
    refine Oper.wp_mono ?_ (h ρ μ a w (hi.env.look o) hi.agr)
    rintro a' w' ⟨v, μ', rfl, h1, h2⟩
    exact ⟨μ', ρ, (hi.stp h2).bnd (dok_lt hd) h1⟩
  | @g _ _ s s0 j d b q hg hj hc hq hd h =>
    unfold Next1
    have h3 : Region.wanted o (yielded ops a.tmps) = q := by
      simp only [Region.wanted, hg]
      rw [yielded_of hj]
      exact hq ρ μ _ (hi.env d _ hc)
    cases q with
    | true =>
      rw [if_pos h3]
      refine Oper.wp_mono ?_ (h rfl ρ μ a w (hi.env.look o) hi.agr)
      rintro a' w' ⟨v, μ', rfl, h1, h2⟩
      exact ⟨μ', ρ, (hi.stp h2).bnd (dok_lt hd) (by unfold SV.R; exact ⟨fun _ => h1, fun e => (by cases e)⟩)⟩
    | false =>
      rw [if_neg (by rw [h3]; simp)]
      exact ⟨μ, ρ, hi.bnd (dok_lt hd) (by unfold SV.R; exact ⟨fun e => (by cases e), fun _ => rfl⟩)⟩
  | r hg hd h =>
    unfold Next1
    rw [if_pos (hg.wanted (ρ := ρ) (μ := μ) fun j d b s0 _ _ hc => hi.env d _ hc)]
    refine Oper.wp_mono ?_ (h ρ μ a w (hi.env.look o) hi.agr hi.heap)
    rintro a' w' ⟨v, μ', rfl, h1, h2⟩
    exact ⟨μ', ρ, (hi.stp h2).bnd (dok_lt hd) h1⟩
  | @rg _ _ s s0 j d b q hg hj hc hq hd h =>
    unfold Next1
    have h3 : Region.wanted o (yielded ops a.tmps) = q := by
      simp only [Region.wanted, hg]
      rw [yielded_of hj]
      exact hq ρ μ _ (hi.env d _ hc)
    cases q with
    | true =>
      rw [if_pos h3]
      refine Oper.wp_mono ?_ (h rfl ρ μ a w (hi.env.look o) hi.agr hi.heap)
      rintro a' w' ⟨v, μ', rfl, h1, h2⟩
      exact ⟨μ', ρ, (hi.stp h2).bnd (dok_lt hd) (by unfold SV.R; exact ⟨fun _ => h1, fun e => (by cases e)⟩)⟩
    | false =>
      rw [if_neg (by rw [h3]; simp)]
      exact ⟨μ, ρ, hi.bnd (dok_lt hd) (by unfold SV.R; exact ⟨fun e => (by cases e), fun _ => rfl⟩)⟩
  | a hg hd h =>
    unfold Next1
    rw [if_pos (hg.wanted (ρ := ρ) (μ := μ) fun j d b s0 _ _ hc => hi.env d _ hc)]
    have h0 : ρ x.fr = none := by
      cases e : ρ x.fr with
      | none => rfl
      | some u => exact absurd (hi.nms x.fr (by rw [e]; simp)) (Nat.lt_irrefl _)
    refine Oper.wp_mono ?_ (h ρ μ a w (hi.env.look o) hi.agr h0)
    rintro a' w' ⟨v, μ', rfl, h1, h2, h3, h4⟩
    exact ⟨μ', _, (hi.new1 h4 h2 h3).bnd (dok_lt hd) h1⟩
  | e hg hd hf h =>
    unfold Next1
    rw [if_pos (hg.wanted (ρ := ρ) (μ := μ) fun j d b s0 _ _ hc => hi.env d _ hc)]
    have h5 := h ρ μ a w (hi.env.look o) hi.agr hi.heap (fun i h1 h2 => by
      cases e : ρ i with
      | none => rfl
      | some u => have := hi.nms i (by rw [e]; simp); omega)
    refine Oper.wp_mono ?_ h5
    rintro a' w' ⟨v, μ', ρ', rfl, h1, h2, h3, h4, h6⟩
    exact ⟨μ', ρ', (hi.estp hf h2 h3 h4 h6).bnd (dok_lt hd) h1⟩

theorem AL.sound {ops : Array Oper} {Q : Exit → Act → World → Prop} : ∀ {ks : List Nat} {l : List Oper} {x y : St} {ss : List SV}, AL C ops nt ks l x ss y → ∀ {μ ρ a w}, Inv F nt x μ ρ a w →
    (∀ μ' ρ' a' w', Inv F nt y μ' ρ' a' w' → Q .normal a' w') → wpList C.P ops Q l a w := by
  intro ks l x y ss h
  induction h with
  | nil => intro μ ρ a w hi hq; exact hq _ _ _ _ hi
  | @cons k o x y z s ks l ss h t ih =>
    intro μ ρ a w hi hq
    have h1 := Step1.sound h hi
    unfold Next1 at h1
    unfold wpList
    split
    · rename_i hw
      rw [if_pos hw] at h1
      refine .inl ?_
      have h2 := Oper.wp_mono (K' := wpList C.P ops Q l) (fun a' w' ⟨μ', ρ', h2⟩ => ih h2 hq) h1
      revert h2
      unfold Oper.wp
      generalize (execOp a.eval o).run C.P w = r
      intro h2
      cases r with
      | ok n w' =>
        cases n <;> simp only [Oper.upon] at h2 ⊢ <;> try exact h2
        exact Calls.mono h2 (fun e w'' he => by
          cases e with
          | returned v => exact he
          | panicked c => exact he.elim
          | outgrown => exact (noLets he).elim)
      | halt e w' => cases e <;> simp only [Oper.upon] at h2 <;> exact h2.elim
    · rename_i hw
      rw [if_neg hw] at h1
      obtain ⟨μ', ρ', h2⟩ := h1
      exact ih h2 hq
end

/- code -/
def WP (C : Cfg) (F : Fx) (nt : Nat) (c : Code) (Q : Exit → St → Prop) (x : St) : Prop :=
  ∀ μ ρ a w, Inv F nt x μ ρ a w → c.wp C.P (fun e a' w' => ∃ y μ' ρ', Q e y ∧ Inv F nt y μ' ρ' a' w') a w

def Shift (F : Fx) (nt : Nat) (x y : St) : Prop := ∀ μ ρ a w, Inv F nt x μ ρ a w → ∃ μ' ρ', Inv F nt y μ' ρ' a w
theorem Shift.refl {F : Fx} {nt : Nat} {x : St} : Shift F nt x x := fun μ ρ _ _ h => ⟨μ, ρ, h⟩
theorem Shift.trans {F : Fx} {nt : Nat} {x y z : St} (h : Shift F nt x y) (k : Shift F nt y z) : Shift F nt x z := fun μ ρ a w hi => by
  obtain ⟨μ', ρ', h1⟩ := h μ ρ a w hi
  exact k μ' ρ' a w h1

def XThen (K : St → Prop) (Q : Exit → St → Prop) : Exit → St → Prop
  | .normal, x => K x
  | e, x => Q e x
def XBlock (id : Nat) (Q : Exit → St → Prop) : Exit → St → Prop
  | .exit id', x => match Nat.beq id' id with
    | true => Q .normal x
    | false => Q (.exit id') x
  | e, x => Q e x

section
variable {C : Cfg} {F : Fx} {nt : Nat} {x y : St} {Q : Exit → St → Prop}
theorem WP.shift {c : Code} (h : Shift F nt x y) (k : WP C F nt c Q y) : WP C F nt c Q x := fun μ ρ a w hi => by
  obtain ⟨μ', ρ', h1⟩ := h μ ρ a w hi
  exact k μ' ρ' a w h1
theorem WP.skip (h : Q .normal x) : WP C F nt .skip Q x := fun μ ρ a w hi => wp_skip ⟨x, μ, ρ, h, hi⟩
theorem WP.exit {id : Nat} (h : Q (.exit id) x) : WP C F nt (.exit id) Q x := fun μ ρ a w hi => wp_exit ⟨x, μ, ρ, h, hi⟩
theorem WP.ret (h : Q .ret x) : WP C F nt .ret Q x := fun μ ρ a w hi => wp_ret ⟨x, μ, ρ, h, hi⟩
theorem WP.seq {c d : Code} (h : WP C F nt c (XThen (WP C F nt d Q) Q) x) : WP C F nt (.seq c d) Q x := fun μ ρ a w hi => wp_seq (wp_mono (h μ ρ a w hi) fun e a' w' ⟨y, μ', ρ', hq, hy⟩ => by
  cases e <;> first | exact hq _ _ _ _ hy | exact ⟨y, μ', ρ', hq, hy⟩)
theorem WP.block {id : Nat} {c : Code} (h : WP C F nt c (XBlock id Q) x) : WP C F nt (.block id c) Q x := fun μ ρ a w hi => wp_block (wp_mono (h μ ρ a w hi) fun e a' w' ⟨y, μ', ρ', hq, hy⟩ => by
  cases e with
  | exit id' =>
    simp only [XBlock] at hq
    simp only [Exit.inBlock]
    cases hb : Nat.beq id' id with
    | true => rw [hb] at hq; rw [if_pos (Nat.eq_of_beq_eq_true hb)]; exact ⟨y, μ', ρ', hq, hy⟩
    | false => rw [hb] at hq; rw [if_neg (Nat.ne_of_beq_eq_false hb)]; exact ⟨y, μ', ρ', hq, hy⟩
  | _ => exact ⟨y, μ', ρ', hq, hy⟩)
theorem WP.cond {t : Nat} {c d : Code} {b : Bool} (hb : lk x.σ t = some (.im (IV.bool b))) (h1 : b = true → WP C F nt c Q x) (h2 : b = false → WP C F nt d Q x) : WP C F nt (.cond (.tmp t) c d) Q x := fun μ ρ a w hi => by
  have h3 := hi.env t _ hb
  unfold SV.R at h3
  exact wp_cond_split (t := b) h3 (fun e => h1 e μ ρ a w hi) (fun e => h2 e μ ρ a w hi)
theorem WP.loop {c : Code} {ι : Type} (I : ι → St) (Pr : ι → Prop) (m : ι → Nat) (i0 : ι) (hp : Pr i0) (h0 : Shift F nt x (I i0))
    (h : ∀ i, Pr i → WP C F nt c (XThen (fun y => ∃ j, Pr j ∧ m j < m i ∧ Shift F nt y (I j)) Q) (I i)) : WP C F nt (.loop c) Q x := by
  intro μ ρ a w hi
  obtain ⟨μ', ρ', h1⟩ := h0 μ ρ a w hi
  clear hi h0
  have key : ∀ n i, m i < n → Pr i → ∀ μ ρ a w, Inv F nt (I i) μ ρ a w → Code.rounds C.P c (fun e a' w' => ∃ y μ' ρ', Q e y ∧ Inv F nt y μ' ρ' a' w') n a w := by
    intro n
    induction n with
    | zero => intro i hm; omega
    | succ n ih =>
      intro i hm hpi μ ρ a w hi
      rw [rounds_succ]
      refine wp_mono (h i hpi μ ρ a w hi) ?_
      rintro e a' w' ⟨y, μ', ρ', hq, hy⟩
      cases e with
      | normal =>
        obtain ⟨j, hj, hlt, hs⟩ := hq
        obtain ⟨μ2, ρ2, h2⟩ := hs _ _ _ _ hy
        exact ih j (by omega) hj _ _ _ _ h2
      | _ => exact ⟨y, μ', ρ', hq, hy⟩
  exact wp_loop_rounds _ (key (m i0 + 1) i0 (Nat.lt_succ_self _) hp _ _ _ _ h1)
end
end Go.Proofs.Ytjgmbgfcffnanac
