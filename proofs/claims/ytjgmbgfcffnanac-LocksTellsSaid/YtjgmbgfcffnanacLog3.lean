/- The logic's regions that draw their order. Over any program. No condition. -/
import Derived.Test.YtjgmbgfcffnanacLog2
namespace Go.Proofs.Ytjgmbgfcffnanac
open Go.RowKit

def depMask (o : Oper) (ms : List Nat) : Nat := o.after.toList.foldl (fun m e => match Region.binds .any e with
  | true => Nat.lor m (Nat.lor (Nat.shiftLeft 1 e.on) (ms.getD e.on 0))
  | false => m) 0
def masks : List Oper → List Nat → List Nat
  | [], acc => acc
  | o :: l, acc => masks l (acc ++ [depMask o acc])
/- the slots that an operation looks at, its guard's with them -/
def looksG (l : List Oper) (o : Oper) : List Tmp := match o.guard with
  | some (j, _) => match (l[j]?).bind (·.dst) with
    | some d => d :: looks o
    | none => looks o
  | none => looks o
def allIdx {α : Type} (p : Nat → α → Bool) : Nat → List α → Bool
  | _, [] => true
  | i, x :: l => p i x && allIdx p (i + 1) l
theorem allIdx_at {α : Type} {p : Nat → α → Bool} : ∀ {l : List α} {i0 : Nat}, allIdx p i0 l = true → ∀ {i : Nat} {x : α}, l[i]? = some x → p (i0 + i) x = true
  | [], _, _, i, x, h => by simp at h
  | y :: l, i0, ha, 0, x, h => by simp at h; subst h; simp only [allIdx, Bool.and_eq_true] at ha; exact ha.1
  | y :: l, i0, ha, i + 1, x, h => by
    simp only [allIdx, Bool.and_eq_true] at ha
    have := allIdx_at ha.2 (i := i) (x := x) (by simpa using h)
    rw [show i0 + (i + 1) = i0 + 1 + i by omega]; exact this
def optEq (a : Option Nat) (d : Nat) : Bool := match a with
  | some x => Nat.beq x d
  | none => false
theorem optEq_iff {a : Option Nat} {d : Nat} : optEq a d = true ↔ a = some d := by
  cases a with
  | none => simp [optEq]
  | some x => simp only [optEq, Option.some.injEq]; exact ⟨Nat.eq_of_beq_eq_true, fun h => by subst h; exact Nat.beq_refl x⟩
/- the check of a region: what is written once, what is looked at behind what it waits for, what turns memory in one chain -/
def regOk (l : List Oper) (ks : List Nat) : Bool :=
  let ms := masks l []
  allIdx (fun i o =>
    let m := ms.getD i 0
    Nat.beq m (depMask o ms) && o.after.toList.all (fun e => !Region.binds .any e || Nat.blt e.on i) &&
    (match o.dst with
      | some d => allIdx (fun j o' => Nat.beq i j || !optEq o'.dst d) 0 l
      | none => true) &&
    (looksG l o).all (fun d => allIdx (fun j o' => !optEq o'.dst d || (Nat.blt j i && Nat.testBit m j) || (Nat.blt i j && Nat.testBit (ms.getD j 0) i)) 0 l) &&
    (match Nat.beq (ks.getD i 0) 2 with
      | true => allIdx (fun j k => Nat.beq k 0 || Nat.ble i j || Nat.testBit m j) 0 ks
      | false => true) &&
    (match Nat.beq (ks.getD i 0) 1 with
      | true => allIdx (fun j k => !Nat.beq k 2 || Nat.ble i j) 0 ks
      | false => true) &&
    (match Nat.beq (ks.getD i 0) 3 with
      | true => allIdx (fun j k => Nat.beq k 0 || Nat.beq k 3 || Nat.ble i j || Nat.testBit m j) 0 ks
      | false => true)) 0 l

structure RegP (l : List Oper) (ks ms : List Nat) (i : Nat) (o : Oper) : Prop where
  mask : ms.getD i 0 = depMask o ms
  dep : ∀ e ∈ o.after.toList, Region.binds .any e = true → e.on < i
  uniq : ∀ d j o', o.dst = some d → l[j]? = some o' → o'.dst = some d → i = j
  look : ∀ d ∈ looksG l o, ∀ j o', l[j]? = some o' → o'.dst = some d → (j < i ∧ Nat.testBit (ms.getD i 0) j = true) ∨ (i < j ∧ Nat.testBit (ms.getD j 0) i = true)
  chain : ks.getD i 0 = 2 → ∀ j k, ks[j]? = some k → k ≠ 0 → j < i → Nat.testBit (ms.getD i 0) j = true
  late : ks.getD i 0 = 1 → ∀ j, ks[j]? = some 2 → i ≤ j
  reads : ks.getD i 0 = 3 → ∀ j k, ks[j]? = some k → k ≠ 0 → k ≠ 3 → j < i → Nat.testBit (ms.getD i 0) j = true
theorem regOk_at {l : List Oper} {ks : List Nat} (h : regOk l ks = true) {i : Nat} {o : Oper} (hi : l[i]? = some o) : RegP l ks (masks l []) i o := by
  have h1 := allIdx_at h hi
  rw [Nat.zero_add] at h1
  simp only [Bool.and_eq_true] at h1
  obtain ⟨⟨⟨⟨⟨⟨a1, a0⟩, a2⟩, a3⟩, a4⟩, a5⟩, a6⟩ := h1
  refine ⟨Nat.eq_of_beq_eq_true a1, ?_, ?_, ?_, ?_, ?_, ?_⟩
  · intro e he hb
    have h2 := List.all_eq_true.1 a0 e he
    rw [hb] at h2
    exact Nat.blt_eq ▸ (by simpa using h2)
  · intro d j o' hd hj hd'
    rw [hd] at a2
    have := allIdx_at a2 hj
    rw [Nat.zero_add] at this
    rcases Bool.or_eq_true _ _ ▸ this with h2 | h2
    · exact Nat.eq_of_beq_eq_true h2
    · rw [optEq_iff.2 hd'] at h2; cases h2
  · intro d hd j o' hj hd'
    have h2 := allIdx_at (List.all_eq_true.1 a3 d hd) hj
    rw [Nat.zero_add, optEq_iff.2 hd'] at h2
    simp only [Bool.not_true, Bool.false_or, Bool.or_eq_true, Bool.and_eq_true] at h2
    exact h2.imp (fun h => ⟨Nat.blt_eq ▸ h.1, h.2⟩) (fun h => ⟨Nat.blt_eq ▸ h.1, h.2⟩)
  · intro hk j k hj hk0 hlt
    rw [hk] at a4
    have h2 := allIdx_at (l := ks) a4 hj
    rw [Nat.zero_add] at h2
    simp only [Bool.or_eq_true] at h2
    rcases h2 with (h2 | h2) | h2
    · exact absurd (Nat.eq_of_beq_eq_true h2) hk0
    · have := Nat.le_of_ble_eq_true h2; omega
    · exact h2
  · intro hk j hj
    rw [hk] at a5
    have h2 := allIdx_at (l := ks) a5 hj
    rw [Nat.zero_add] at h2
    simp only [Bool.or_eq_true, Nat.beq_refl, Bool.not_true] at h2
    rcases h2 with h2 | h2
    · cases h2
    · exact Nat.le_of_ble_eq_true h2
  · intro hk j k hj hk0 hk3 hlt
    rw [hk] at a6
    have h2 := allIdx_at (l := ks) a6 hj
    rw [Nat.zero_add] at h2
    simp only [Bool.or_eq_true] at h2
    rcases h2 with ((h2 | h2) | h2) | h2
    · exact absurd (Nat.eq_of_beq_eq_true h2) hk0
    · exact absurd (Nat.eq_of_beq_eq_true h2) hk3
    · have := Nat.le_of_ble_eq_true h2; omega
    · exact h2

theorem foldl_mask {ms : List Nat} {P : Nat → Prop} (hP : ∀ j, P j → ∀ b, Nat.testBit (ms.getD j 0) b = true → P b) : ∀ (es : List Edge) (m : Nat), (∀ b, Nat.testBit m b = true → P b) → (∀ e ∈ es, Region.binds .any e = true → P e.on) →
    ∀ b, Nat.testBit (es.foldl (fun m e => match Region.binds .any e with
      | true => Nat.lor m (Nat.lor (Nat.shiftLeft 1 e.on) (ms.getD e.on 0))
      | false => m) m) b = true → P b
  | [], m, hm, _, b, hb => hm b hb
  | e :: es, m, hm, he, b, hb => by
    refine foldl_mask hP es _ ?_ (fun e' h' => he e' (List.mem_cons_of_mem _ h')) b hb
    intro b hb
    cases hbe : Region.binds .any e with
    | false => simp only [hbe] at hb; exact hm b hb
    | true =>
      simp only [hbe] at hb
      have h1 := he e List.mem_cons_self hbe
      change Nat.testBit (m ||| ((1 <<< e.on) ||| ms.getD e.on 0)) b = true at hb
      rw [Nat.testBit_or, Nat.testBit_or, Bool.or_eq_true, Bool.or_eq_true] at hb
      rcases hb with hb | hb | hb
      · exact hm b hb
      · rw [Nat.one_shiftLeft, Nat.testBit_two_pow] at hb
        have : e.on = b := by simpa using hb
        subst this; exact h1
      · exact hP _ h1 b hb
theorem depMask_sub {ms : List Nat} {P : Nat → Prop} (hP : ∀ j, P j → ∀ b, Nat.testBit (ms.getD j 0) b = true → P b) {o : Oper} (ho : ∀ e ∈ o.after.toList, Region.binds .any e = true → P e.on) : ∀ b, Nat.testBit (depMask o ms) b = true → P b :=
  foldl_mask hP _ 0 (fun b hb => by simp at hb) ho

section
variable {C : Cfg} {ops : Array Oper} {nt : Nat}
def StepAt (C : Cfg) (ops : Array Oper) (nt k : Nat) (o : Oper) (x : St) (s : SV) (ob : HObj) (y : St) : Prop :=
  dok nt o = true ∧ y.σ = bnd o.dst s x.σ ∧
  ((k = 0 ∧ y.H = x.H ∧ y.fr = x.fr ∧ ((Yes ops o x.σ ∧ OpN C o x.σ s) ∨
      ∃ j d b q s0 s', o.guard = some (j, b) ∧ (ops[j]?).bind (·.dst) = some d ∧ lk x.σ d = some s0 ∧ Gq s0 b q ∧ s = .cnd q s' ∧ (q = true → OpN C o x.σ s'))) ∨
   (k = 1 ∧ Yes ops o x.σ ∧ y.H = (x.fr, ob) :: x.H ∧ y.fr = x.fr + 1 ∧ OpA C o x.σ x.fr s ob) ∨
   (k = 2 ∧ Yes ops o x.σ ∧ x.fr ≤ y.fr ∧ OpE C o x.σ x.H x.fr s y.H y.fr) ∨
   (k = 3 ∧ y.H = x.H ∧ y.fr = x.fr ∧ ((Yes ops o x.σ ∧ OpR C o x.σ x.H s) ∨
      ∃ j d b q s0 s', o.guard = some (j, b) ∧ (ops[j]?).bind (·.dst) = some d ∧ lk x.σ d = some s0 ∧ Gq s0 b q ∧ s = .cnd q s' ∧ (q = true → OpR C o x.σ x.H s'))))
theorem Step1.at {k : Nat} {o : Oper} {x y : St} {s : SV} (h : Step1 C ops nt k o x s y) : ∃ ob, StepAt C ops nt k o x s ob y := by
  cases h with
  | n hg hd h => exact ⟨.blk 0 [], hd, rfl, .inl ⟨rfl, rfl, rfl, .inl ⟨hg, h⟩⟩⟩
  | g hg hj hc hq hd h => exact ⟨.blk 0 [], hd, rfl, .inl ⟨rfl, rfl, rfl, .inr ⟨_, _, _, _, _, _, hg, hj, hc, hq, rfl, h⟩⟩⟩
  | a hg hd h => exact ⟨_, hd, rfl, .inr (.inl ⟨rfl, hg, rfl, rfl, h⟩)⟩
  | e hg hd hf h => exact ⟨.blk 0 [], hd, rfl, .inr (.inr (.inl ⟨rfl, hg, hf, h⟩))⟩
  | r hg hd h => exact ⟨.blk 0 [], hd, rfl, .inr (.inr (.inr ⟨rfl, rfl, rfl, .inl ⟨hg, h⟩⟩))⟩
  | rg hg hj hc hq hd h => exact ⟨.blk 0 [], hd, rfl, .inr (.inr (.inr ⟨rfl, rfl, rfl, .inr ⟨_, _, _, _, _, _, hg, hj, hc, hq, rfl, h⟩⟩))⟩

theorem AL.at : ∀ {ks : List Nat} {l : List Oper} {x y : St} {ss : List SV}, AL C ops nt ks l x ss y →
    ks.length = l.length ∧ ∃ (f : Nat → St) (sf : Nat → SV) (ob : Nat → HObj), f 0 = x ∧ f l.length = y ∧ ∀ i o, l[i]? = some o → StepAt C ops nt (ks.getD i 0) o (f i) (sf i) (ob i) (f (i + 1)) := by
  intro ks l x y ss h
  induction h with
  | @nil x => exact ⟨rfl, fun _ => x, fun _ => .im IV.any, fun _ => .blk 0 [], rfl, rfl, fun i o hi => by simp at hi⟩
  | @cons k o x y z s ks l ss h t ih =>
    obtain ⟨hl, f, sf, ob, h0, h1, h2⟩ := ih
    obtain ⟨b, hb⟩ := h.at
    refine ⟨by simp [hl], fun n => match n with | 0 => x | n + 1 => f n, fun n => match n with | 0 => s | n + 1 => sf n, fun n => match n with | 0 => b | n + 1 => ob n, rfl, h1, ?_⟩
    intro i o' hi
    cases i with
    | zero =>
      simp at hi; subst hi
      show StepAt C ops nt ((k :: ks).getD 0 0) o x s b (f 0)
      rw [h0]; simpa using hb
    | succ i => simpa using h2 i o' (by simpa using hi)
end

theorem ready_mem {ops : Array Oper} {listed : Array Bool} {i : Nat} (h : i ∈ Region.ready .any ops listed) : ∃ o, ops[i]? = some o ∧ listed.getD i true = false ∧ ∀ e ∈ o.after.toList, Region.binds .any e = true → listed.getD e.on false = true := by
  unfold Region.ready at h
  rw [List.mem_filter] at h
  obtain ⟨h1, h2⟩ := h
  rw [List.mem_range] at h1
  have ho : ops[i]? = some ops[i] := Array.getElem?_eq_getElem h1
  simp only [Bool.and_eq_true, Bool.not_eq_true', ho, Option.map_some, Option.getD_some] at h2
  refine ⟨_, ho, h2.1, fun e he hb => ?_⟩
  have := h2.2
  rw [← Array.all_toList] at this
  have := List.all_eq_true.1 this e he
  rw [hb] at this
  simpa using this

def Lst (n : Nat) (listed : Array Bool) (i : Nat) : Prop := i < n ∧ listed.getD i false = true

theorem not_ready {l : List Oper} {listed : Array Bool} (hsz : listed.size = l.length) (hr : Region.ready .any l.toArray listed = []) (hdone : ∀ i o, l[i]? = some o → ∀ e ∈ o.after.toList, Region.binds .any e = true → e.on < i) : ∀ i, i < l.length → Lst l.length listed i := by
  intro i
  induction i using Nat.strongRecOn with
  | _ i ih =>
    intro hi
    refine ⟨hi, ?_⟩
    cases hb : listed.getD i false with
    | true => rfl
    | false =>
      exfalso
      have ho := List.getElem?_eq_getElem hi
      have hm : i ∈ Region.ready .any l.toArray listed := by
        unfold Region.ready
        rw [List.mem_filter, List.mem_range]
        refine ⟨by simpa using hi, ?_⟩
        have h1 : listed.getD i true = false := by
          rw [Array.getD_eq_getD_getElem?, Array.getElem?_eq_getElem (by omega)] at hb ⊢
          simpa using hb
        simp only [Bool.and_eq_true, Bool.not_eq_true', List.getElem?_toArray, ho, Option.map_some, Option.getD_some]
        refine ⟨h1, ?_⟩
        rw [← Array.all_toList, List.all_eq_true]
        intro e he
        cases hbe : Region.binds .any e with
        | false => rfl
        | true =>
          have h2 := hdone i _ ho e he hbe
          have := (ih e.on h2 (by omega)).2
          simpa using this
      rw [hr] at hm
      cases hm

/- all operations of a region, in whatever order -/
section
variable {C : Cfg} {F : Fx} {nt : Nat} {l : List Oper} {ks : List Nat} {f : Nat → St} {sf : Nat → SV} {ob : Nat → HObj}

/- the state between, when the operations in L are done -/
structure Jn (C : Cfg) (F : Fx) (nt : Nat) (l : List Oper) (ks : List Nat) (f : Nat → St) (sf : Nat → SV) (ob : Nat → HObj) (L : Nat → Prop) (μ : Mem) (ρ : Nms) (H : List Ent) (a : Act) (w : World) : Prop where
  size : a.tmps.size = nt
  defers : a.defers = F.D
  done : ∀ i o d, L i → l[i]? = some o → o.dst = some d → SV.R ρ μ (sf i) (a.tmps.getD d undef)
  rest : ∀ d s, (∀ i o, L i → l[i]? = some o → o.dst ≠ some d) → lk (f 0).σ d = some s → SV.R ρ μ s (a.tmps.getD d undef)
  agr : Agr μ w
  heap : HeapOk ρ μ w H
  hat : (∃ i, L i ∧ ks[i]? = some 2 ∧ (∀ j, L j → ks[j]? = some 2 → j ≤ i) ∧ H = (f (i + 1)).H) ∨ ((∀ i, L i → ks[i]? ≠ some 2) ∧ ∀ e, e ∈ H ↔ e ∈ (f 0).H ∨ ∃ j, L j ∧ ks[j]? = some 1 ∧ e = ((f j).fr, ob j))
  nms : ∀ i, ρ i ≠ none → i < (f 0).fr ∨ ∃ j, L j ∧ (f j).fr ≤ i ∧ i < (f (j + 1)).fr
  inl : ∀ i, L i → i < l.length
  clos : ∀ i, L i → ∀ b, Nat.testBit ((masks l []).getD i 0) b = true → L b
  os : w.os = F.w0.os
  tape : w.tape = F.w0.tape
  output : w.output = F.w0.output
  hsize : F.w0.heap.size ≤ w.heap.size
  block : ∀ k, k < F.w0.heap.size → ¬ F.G k → w.heap[k]? = F.w0.heap[k]?
  le : Mem.le F.μ0 μ
  new : ∀ b, μ b ≠ none → F.μ0 b ≠ none ∨ F.w0.heap.size ≤ b ∨ F.G b
  own : ∀ e ∈ H, ∀ g, eb ρ e = some g → F.G g ∨ F.w0.heap.size ≤ g

variable (hst : ∀ i o, l[i]? = some o → StepAt C l.toArray nt (ks.getD i 0) o (f i) (sf i) (ob i) (f (i + 1))) (hok : regOk l ks = true) (hkl : ks.length = l.length)
include hst

theorem fr_step {i : Nat} (hi : i < l.length) : (f i).fr ≤ (f (i + 1)).fr := by
  obtain ⟨_, _, h⟩ := hst i _ (List.getElem?_eq_getElem hi)
  rcases h with ⟨_, _, h, _⟩ | ⟨_, _, _, h, _⟩ | ⟨_, _, h, _⟩ | ⟨_, _, h, _⟩ <;> omega
theorem fr_mono {i : Nat} : ∀ {j : Nat}, i ≤ j → j ≤ l.length → (f i).fr ≤ (f j).fr := by
  intro j
  induction j with
  | zero => intro h _; obtain rfl : i = 0 := by omega
            exact Nat.le_refl _
  | succ j ih =>
    intro h hj
    rcases Nat.lt_or_ge i (j + 1) with h1 | h1
    · exact Nat.le_trans (ih (by omega) (by omega)) (fr_step hst (by omega))
    · obtain rfl : i = j + 1 := by omega
      exact Nat.le_refl _
theorem lk_text : ∀ {i : Nat}, i ≤ l.length → ∀ {t : Nat} {s : SV}, lk (f i).σ t = some s → (∃ j o, j < i ∧ l[j]? = some o ∧ o.dst = some t ∧ s = sf j) ∨ ((∀ j o, j < i → l[j]? = some o → o.dst ≠ some t) ∧ lk (f 0).σ t = some s) := by
  intro i
  induction i with
  | zero => intro _ t s h; exact .inr ⟨fun j o hj => by omega, h⟩
  | succ i ih =>
    intro hi t s h
    have ho := List.getElem?_eq_getElem (show i < l.length by omega)
    obtain ⟨_, hσ, _⟩ := hst i _ ho
    rw [hσ] at h
    have key : lk (f i).σ t = some s → (l[i]'(by omega)).dst ≠ some t → (∃ j o, j < i + 1 ∧ l[j]? = some o ∧ o.dst = some t ∧ s = sf j) ∨ ((∀ j o, j < i + 1 → l[j]? = some o → o.dst ≠ some t) ∧ lk (f 0).σ t = some s) := fun h hne => by
      rcases ih (by omega) h with ⟨j, o, h1, h2, h3, h4⟩ | ⟨h1, h2⟩
      · exact .inl ⟨j, o, by omega, h2, h3, h4⟩
      · refine .inr ⟨fun j o hj hjo => ?_, h2⟩
        rcases Nat.lt_or_ge j i with h5 | h5
        · exact h1 j o h5 hjo
        · obtain rfl : j = i := by omega
          rw [ho] at hjo; injection hjo with hjo; subst hjo; exact hne
    cases hd : (l[i]'(by omega)).dst with
    | none => rw [hd] at h; exact key h (by rw [hd]; simp)
    | some d =>
      rw [hd] at h
      simp only [bnd, lk] at h
      cases hb : Nat.beq d t with
      | true =>
        rw [hb] at h
        injection h with h
        have := Nat.eq_of_beq_eq_true hb
        subst this
        exact .inl ⟨i, _, by omega, ho, hd, h.symm⟩
      | false =>
        rw [hb] at h
        exact key h (by rw [hd]; simp; exact Nat.ne_of_beq_eq_false hb)
theorem heap_text {i : Nat} : ∀ {j : Nat}, i ≤ j → j ≤ l.length → (∀ k, i ≤ k → k < j → ks[k]? ≠ some 2) → ks.length = l.length → ∀ e, e ∈ (f j).H ↔ e ∈ (f i).H ∨ ∃ k, i ≤ k ∧ k < j ∧ ks[k]? = some 1 ∧ e = ((f k).fr, ob k) := by
  intro j
  induction j with
  | zero => intro h _ _ _ e; obtain rfl : i = 0 := by omega
            exact ⟨.inl, fun h => h.elim id (fun ⟨k, h1, h2, _⟩ => by omega)⟩
  | succ j ih =>
    intro h hj hn hkl e
    rcases Nat.lt_or_ge i (j + 1) with h1 | h1
    · have ho := List.getElem?_eq_getElem (show j < l.length by omega)
      have hkj : ks[j]? = some (ks.getD j 0) := by rw [List.getD_eq_getElem?_getD, List.getElem?_eq_getElem (by omega)]; rfl
      obtain ⟨_, _, h2⟩ := hst j _ ho
      have ih' := ih (by omega) (by omega) (fun k h3 h4 => hn k h3 (by omega)) hkl e
      rcases h2 with ⟨hk, hH, _, _⟩ | ⟨hk, _, hH, _, _⟩ | ⟨hk, _⟩ | ⟨hk, hH, _, _⟩
      · rw [hH, ih']
        rw [hk] at hkj
        constructor
        · rintro (h3 | ⟨k, h3, h4, h5⟩)
          · exact .inl h3
          · exact .inr ⟨k, h3, by omega, h5⟩
        · rintro (h3 | ⟨k, h3, h4, h5⟩)
          · exact .inl h3
          · refine .inr ⟨k, h3, ?_, h5⟩
            rcases Nat.lt_or_ge k j with h6 | h6
            · exact h6
            · obtain rfl : k = j := by omega
              rw [hkj] at h5; cases h5.1
      · rw [hH, List.mem_cons, ih']
        rw [hk] at hkj
        constructor
        · rintro (h3 | h3 | ⟨k, h3, h4, h5⟩)
          · exact .inr ⟨j, by omega, by omega, hkj, h3⟩
          · exact .inl h3
          · exact .inr ⟨k, h3, by omega, h5⟩
        · rintro (h3 | ⟨k, h3, h4, h5⟩)
          · exact .inr (.inl h3)
          · rcases Nat.lt_or_ge k j with h6 | h6
            · exact .inr (.inr ⟨k, h3, h6, h5⟩)
            · obtain rfl : k = j := by omega
              exact .inl h5.2
      · rw [hk] at hkj
        exact absurd hkj (hn j (by omega) (by omega))
      · rw [hH, ih']
        rw [hk] at hkj
        constructor
        · rintro (h3 | ⟨k, h3, h4, h5⟩)
          · exact .inl h3
          · exact .inr ⟨k, h3, by omega, h5⟩
        · rintro (h3 | ⟨k, h3, h4, h5⟩)
          · exact .inl h3
          · refine .inr ⟨k, h3, ?_, h5⟩
            rcases Nat.lt_or_ge k j with h6 | h6
            · exact h6
            · obtain rfl : k = j := by omega
              rw [hkj] at h5; cases h5.1
    · obtain rfl : i = j + 1 := by omega
      exact ⟨.inl, fun h => h.elim id (fun ⟨k, h1, h2, _⟩ => by omega)⟩

include hok hkl
set_option linter.unusedSectionVars false in
theorem Jn.look {L : Nat → Prop} {μ : Mem} {ρ : Nms} {H : List Ent} {a : Act} {w : World} (h : Jn C F nt l ks f sf ob L μ ρ H a w) {i : Nat} {o : Oper} (hi : l[i]? = some o) (hL : ¬ L i) (hm : ∀ b, Nat.testBit ((masks l []).getD i 0) b = true → L b)
    {t : Nat} (ht : t ∈ looksG l o) {s : SV} (hs : lk (f i).σ t = some s) : SV.R ρ μ s (a.tmps.getD t undef) := by
  have hlt : i < l.length := (List.getElem?_eq_some_iff.1 hi).1
  have hr := regOk_at hok hi
  rcases lk_text hst (Nat.le_of_lt hlt) hs with ⟨j, o', h1, h2, h3, rfl⟩ | ⟨h1, h2⟩
  · rcases hr.look t ht j o' h2 h3 with h4 | h4
    · exact h.done j o' t (hm j h4.2) h2 h3
    · omega
  · refine h.rest t s (fun j o' hj h4 h5 => ?_) h2
    rcases hr.look t ht j o' h4 h5 with h6 | h6
    · exact h1 j o' h6.1 h4 h5
    · exact hL (h.clos j hj i h6.2)

theorem Jn.step {L : Nat → Prop} {μ : Mem} {ρ : Nms} {H : List Ent} {a : Act} {w : World} (h : Jn C F nt l ks f sf ob L μ ρ H a w) {i : Nat} {o : Oper} (hi : l[i]? = some o) (hL : ¬ L i) (hdep : ∀ e ∈ o.after.toList, Region.binds .any e = true → L e.on) :
    Next1 C l.toArray o a w (fun a' w' => ∃ μ' ρ' H', Jn C F nt l ks f sf ob (fun j => L j ∨ j = i) μ' ρ' H' a' w') := by
  have hlt : i < l.length := (List.getElem?_eq_some_iff.1 hi).1
  have hr := regOk_at hok hi
  have hm : ∀ b, Nat.testBit ((masks l []).getD i 0) b = true → L b := by rw [hr.mask]; exact depMask_sub h.clos hdep
  obtain ⟨hd, _, hk⟩ := hst i o hi
  have hki : ks[i]? = some (ks.getD i 0) := by rw [List.getD_eq_getElem?_getD, List.getElem?_eq_getElem (by omega)]; rfl
  have hlook : LookOk ρ μ (f i).σ o a := fun t ht s hs => h.look hst hok hkl hi hL hm (by unfold looksG; split <;> (try split) <;> simp_all) hs
  /- what stays of the slots -/
  have hslots : ∀ {ρ' : Nms} {μ' : Mem} {v : Value}, Nms.le ρ ρ' → Mem.le μ μ' → SV.R ρ' μ' (sf i) v →
      (∀ j o' d, (L j ∨ j = i) → l[j]? = some o' → o'.dst = some d → SV.R ρ' μ' (sf j) ((a.put o.dst v).tmps.getD d undef)) ∧
      (∀ d s, (∀ j o', (L j ∨ j = i) → l[j]? = some o' → o'.dst ≠ some d) → lk (f 0).σ d = some s → SV.R ρ' μ' s ((a.put o.dst v).tmps.getD d undef)) := by
    intro ρ' μ' v hr' hm' hv
    have hget : ∀ d, (a.put o.dst v).tmps.getD d undef = if o.dst = some d then v else a.tmps.getD d undef := by
      intro d
      cases hd0 : o.dst with
      | none => simp [Act.put]
      | some d0 =>
        show (a.tmps.setIfInBounds d0 v).getD d undef = _
        rw [getD_set _ _ _ _ _ (by rw [h.size]; exact dok_lt hd d0 hd0)]
        by_cases e : d0 = d <;> simp [e]
    refine ⟨fun j o' d hj hjo hjd => ?_, fun d s hno hs => ?_⟩
    · rw [hget]
      by_cases e : o.dst = some d
      · have := hr.uniq d j o' e hjo hjd
        subst this
        rw [if_pos e]; exact hv
      · rw [if_neg e]
        rcases hj with hj | rfl
        · exact (h.done j o' d hj hjo hjd).mono hr' hm'
        · rw [hi] at hjo; injection hjo with hjo; subst hjo; exact absurd hjd e
    · rw [hget, if_neg (hno i o (.inr rfl) hi)]
      exact (h.rest d s (fun j o' hj => hno j o' (.inl hj)) hs).mono hr' hm'
  have hinl : ∀ j, (L j ∨ j = i) → j < l.length := fun j hj => hj.elim (h.inl j) (fun e => e ▸ hlt)
  have hclos : ∀ j, (L j ∨ j = i) → ∀ b, Nat.testBit ((masks l []).getD j 0) b = true → (L b ∨ b = i) := fun j hj b hb => hj.elim (fun hj => .inl (h.clos j hj b hb)) (fun e => .inl (hm b (e ▸ hb)))
  have hnms : ∀ j, ρ j ≠ none → j < (f 0).fr ∨ ∃ k, (L k ∨ k = i) ∧ (f k).fr ≤ j ∧ j < (f (k + 1)).fr := fun j hj => (h.nms j hj).imp id (fun ⟨k, h1, h2⟩ => ⟨k, .inl h1, h2⟩)
  /- a step of kind 0 -/
  have pure : ks.getD i 0 ≠ 1 ∧ ks.getD i 0 ≠ 2 → ∀ {μ' : Mem} {v : Value} {w' : World}, SV.R ρ μ' (sf i) v → Stp μ w μ' w' → Jn C F nt l ks f sf ob (fun j => L j ∨ j = i) μ' ρ H (a.put o.dst v) w' := by
    rintro ⟨hk1, hk2⟩ μ' v w' hv hs
    obtain ⟨s1, s2⟩ := hslots (Nms.le.refl _) hs.le hv
    refine ⟨(put_size _ _ _).trans h.size, (put_defers _ _ _).trans h.defers, s1, s2, hs.agr, h.heap.stp hs, ?_, hnms, hinl, hclos, hs.below.os.trans h.os, hs.below.tape.trans h.tape, hs.below.output.trans h.output,
      Nat.le_trans h.hsize hs.below.size, fun k hk hg => (hs.below.block k (Nat.lt_of_lt_of_le hk h.hsize)).trans (h.block k hk hg), h.le.trans hs.le,
      fun b hb => (hs.new b hb).elim (h.new b) (fun hle => .inr (.inl (Nat.le_trans h.hsize hle))), h.own⟩
    rcases h.hat with ⟨q, h1, h2, h3, h4⟩ | ⟨h1, h2⟩
    · refine .inl ⟨q, .inl h1, h2, fun j hj hj2 => ?_, h4⟩
      rcases hj with hj | rfl
      · exact h3 j hj hj2
      · rw [hki] at hj2; injection hj2 with hj2; exact absurd hj2 hk2
    · refine .inr ⟨fun j hj => ?_, fun e => (h2 e).trans ⟨fun h5 => h5.imp id (fun ⟨j, h6, h7⟩ => ⟨j, .inl h6, h7⟩), fun h5 => h5.imp id (fun ⟨j, h6, h7⟩ => ?_)⟩⟩
      · rcases hj with hj | rfl
        · exact h1 j hj
        · rw [hki]; intro e; injection e with e; exact absurd e hk2
      · rcases h6 with h6 | rfl
        · exact ⟨j, h6, h7⟩
        · rw [hki] at h7; injection h7.1 with e; exact absurd e hk1
  have hyes : Yes l.toArray o (f i).σ → Region.wanted o (yielded l.toArray a.tmps) = true := fun hg => hg.wanted (x := f i) (ρ := ρ) (μ := μ) fun j d b s0 hg hj hc => h.look hst hok hkl hi hL hm (t := d) (by
    unfold looksG; simp only [hg]
    have : (l[j]?).bind (·.dst) = some d := by simpa using hj
    rw [this]; simp) hc
  unfold Next1
  rcases hk with ⟨hk0, _, _, hg | hg⟩ | ⟨hk1, hg, hH, hfr, hA⟩ | ⟨hk2, hg, hfr, hE⟩ | ⟨hk3, _, _, hg⟩
  · obtain ⟨hg, hN⟩ := hg
    rw [if_pos (hyes hg)]
    refine Oper.wp_mono ?_ (hN ρ μ a w hlook h.agr)
    rintro a' w' ⟨v, μ', rfl, h1, h2⟩
    exact ⟨μ', ρ, H, pure ⟨by rw [hk0]; simp, by rw [hk0]; simp⟩ h1 h2⟩
  · obtain ⟨j, d, b, q, s0, s', hg, hj, hc, hq, hse, hN⟩ := hg
    have h1 : SV.R ρ μ s0 (a.tmps.getD d undef) := h.look hst hok hkl hi hL hm (t := d) (by
        unfold looksG; simp only [hg]
        have : (l[j]?).bind (·.dst) = some d := by simpa using hj
        rw [this]; simp) hc
    have h3 : Region.wanted o (yielded l.toArray a.tmps) = q := by
      simp only [Region.wanted, hg]
      rw [yielded_of hj]
      exact hq ρ μ _ h1
    cases q with
    | true =>
      rw [if_pos h3]
      refine Oper.wp_mono ?_ (hN rfl ρ μ a w hlook h.agr)
      rintro a' w' ⟨v, μ', rfl, h1, h2⟩
      exact ⟨μ', ρ, H, pure ⟨by rw [hk0]; simp, by rw [hk0]; simp⟩ (by rw [hse]; unfold SV.R; exact ⟨fun _ => h1, fun e => (by cases e)⟩) h2⟩
    | false =>
      rw [if_neg (by rw [h3]; simp)]
      exact ⟨μ, ρ, H, pure ⟨by rw [hk0]; simp, by rw [hk0]; simp⟩ (by rw [hse]; unfold SV.R; exact ⟨fun e => (by cases e), fun _ => rfl⟩) (Stp.refl h.agr)⟩
  · rw [if_pos (hyes hg)]
    have hki1 : ks[i]? = some 1 := by rw [hki, hk1]
    have h0 : ρ (f i).fr = none := by
      cases e : ρ (f i).fr with
      | none => rfl
      | some u =>
        exfalso
        rcases h.nms (f i).fr (by rw [e]; simp) with h1 | ⟨j, h1, h2, h3⟩
        · have := fr_mono hst (Nat.zero_le i) (Nat.le_of_lt hlt); omega
        · have hj := h.inl j h1
          rcases Nat.lt_trichotomy j i with h4 | h4 | h4
          · have := fr_mono hst (show j + 1 ≤ i by omega) (Nat.le_of_lt hlt); omega
          · subst h4; exact hL h1
          · have := fr_mono hst (show i + 1 ≤ j by omega) (Nat.le_of_lt hj); omega
    refine Oper.wp_mono ?_ (hA ρ μ a w hlook h.agr h0)
    rintro a' w' ⟨v, μ', rfl, h1, h2, h3, hs⟩
    have hle := upd_le (v := v) h0
    obtain ⟨s1, s2⟩ := hslots hle hs.le h1
    have heb : eb (upd ρ (f i).fr v) ((f i).fr, ob i) = blk v := by unfold eb; rw [upd_at]; rfl
    have hold : ∀ e ∈ H, eb (upd ρ (f i).fr v) e = eb ρ e := fun e he => eb_le hle (h.heap.1 e he).named
    have hst' := h.heap.stp hs
    have hH' := hst'.keep hle (Mem.le.refl _) (fun e he g hg => ⟨rfl, ((hst'.1 e he).lt hg).2⟩)
    have hat : ((∀ j, (L j ∨ j = i) → ks[j]? ≠ some 2) ∧ ∀ e, e ∈ ((f i).fr, ob i) :: H ↔ e ∈ (f 0).H ∨ ∃ j, (L j ∨ j = i) ∧ ks[j]? = some 1 ∧ e = ((f j).fr, ob j)) := by
      rcases h.hat with ⟨q, h4, h5, _, _⟩ | ⟨h4, h5⟩
      · have h6 := hr.late hk1 q h5
        exfalso
        rcases Nat.lt_or_eq_of_le h6 with h7 | h7
        · have hq := h.inl q h4
          have ho := List.getElem?_eq_getElem hq
          have := (regOk_at hok ho).chain (by rw [List.getD_eq_getElem?_getD, h5]; rfl) i 1 hki1 (by omega) h7
          exact hL (h.clos q h4 i this)
        · subst h7; exact hL h4
      · refine ⟨fun j hj => ?_, fun e => ?_⟩
        · rcases hj with hj | rfl
          · exact h4 j hj
          · rw [hki1]; simp
        · rw [List.mem_cons, h5]
          constructor
          · rintro (h6 | h6 | ⟨j, h6, h7, h8⟩)
            · exact .inr ⟨i, .inr rfl, hki1, h6⟩
            · exact .inl h6
            · exact .inr ⟨j, .inl h6, h7, h8⟩
          · rintro (h6 | ⟨j, h6 | rfl, h7, h8⟩)
            · exact .inr (.inl h6)
            · exact .inr (.inr ⟨j, h6, h7, h8⟩)
            · exact .inl h8
    refine ⟨μ', _, ((f i).fr, ob i) :: H, ⟨(put_size _ _ _).trans h.size, (put_defers _ _ _).trans h.defers, s1, s2, hs.agr, ⟨?_, ?_⟩, .inr hat, ?_, hinl, hclos, hs.below.os.trans h.os, hs.below.tape.trans h.tape, hs.below.output.trans h.output,
      Nat.le_trans h.hsize hs.below.size, fun k hk hg => (hs.below.block k (Nat.lt_of_lt_of_le hk h.hsize)).trans (h.block k hk hg), h.le.trans hs.le,
      fun b hb => (hs.new b hb).elim (h.new b) (fun hle => .inr (.inl (Nat.le_trans h.hsize hle))), ?_⟩⟩
    · intro e he
      rcases List.mem_cons.1 he with rfl | he
      · exact h2
      · exact hH'.1 e he
    · have key : ∀ e ∈ H, ∀ g, blk v = some g → eb (upd ρ (f i).fr v) e ≠ some g := fun e hm g hg hg2 => by
        have h3 := h3 g hg
        rw [hold e hm] at hg2
        have h4 := ((h.heap.1 e hm).lt hg2).1
        omega
      intro e hm e' hm' hne g hg hg2
      rcases List.mem_cons.1 hm with rfl | hm
      · rcases List.mem_cons.1 hm' with rfl | hm'
        · exact hne rfl
        · rw [heb] at hg; exact key e' hm' g hg hg2
      · rcases List.mem_cons.1 hm' with rfl | hm'
        · rw [heb] at hg2; exact key e hm g hg2 hg
        · exact hH'.2 e hm e' hm' hne g hg hg2
    · intro j hj
      unfold upd at hj
      by_cases e : j = (f i).fr
      · exact .inr ⟨i, .inr rfl, by omega, by omega⟩
      · rw [if_neg e] at hj; exact hnms j hj
    · intro e hm g hg
      rcases List.mem_cons.1 hm with rfl | hm
      · rw [heb] at hg; exact .inr (Nat.le_trans h.hsize (h3 g hg))
      · rw [hold e hm] at hg; exact h.own e hm g hg
  · rw [if_pos (hyes hg)]
    have hki2 : ks[i]? = some 2 := by rw [hki, hk2]
    /- what is owned is what the text has here -/
    have hHi : ∀ e, e ∈ H ↔ e ∈ (f i).H := by
      have hb4 : ∀ k n, ks[k]? = some n → n ≠ 0 → k < i → L k := fun k n h1 h2 h3 => hm k (hr.chain hk2 k n h1 h2 h3)
      rcases h.hat with ⟨q, h4, h5, h6, h7⟩ | ⟨h4, h5⟩
      · have hq := h.inl q h4
        have hqi : q < i := by
          rcases Nat.lt_trichotomy q i with h8 | h8 | h8
          · exact h8
          · subst h8; exact absurd h4 hL
          · have ho := List.getElem?_eq_getElem hq
            have := (regOk_at hok ho).chain (by rw [List.getD_eq_getElem?_getD, h5]; rfl) i 2 hki2 (by omega) h8
            exact absurd (h.clos q h4 i this) hL
        intro e
        rw [h7, heap_text hst (show q + 1 ≤ i by omega) (Nat.le_of_lt hlt) (fun k h8 h9 h10 => by have := h6 k (hb4 k 2 h10 (by omega) h9) h10; omega) hkl e]
        refine ⟨.inl, fun h8 => h8.elim id fun ⟨k, h9, h10, h11, h12⟩ => ?_⟩
        have hk := (List.getElem?_eq_some_iff.1 h11).1
        have ho := List.getElem?_eq_getElem (show k < l.length by omega)
        have := (regOk_at hok ho).late (by rw [List.getD_eq_getElem?_getD, h11]; rfl) q h5
        omega
      · intro e
        rw [heap_text hst (Nat.zero_le i) (Nat.le_of_lt hlt) (fun k _ h9 h10 => h4 k (hb4 k 2 h10 (by omega) h9) h10) hkl e, h5]
        constructor
        · rintro (h6 | ⟨j, h6, h7, h8⟩)
          · exact .inl h6
          · refine .inr ⟨j, Nat.zero_le _, ?_, h7, h8⟩
            rcases Nat.lt_or_ge j i with h9 | h9
            · exact h9
            · have hj := h.inl j h6
              have ho := List.getElem?_eq_getElem hj
              have := (regOk_at hok ho).late (by rw [List.getD_eq_getElem?_getD, h7]; rfl) i hki2
              obtain rfl : j = i := by omega
              exact absurd h6 hL
        · rintro (h6 | ⟨j, _, h7, h8, h9⟩)
          · exact .inl h6
          · exact .inr ⟨j, hb4 j 1 h8 (by omega) h7, h8, h9⟩
    have hnone : ∀ j, (f i).fr ≤ j → j < (f (i + 1)).fr → ρ j = none := fun j h1 h2 => by
      cases e : ρ j with
      | none => rfl
      | some u =>
        exfalso
        rcases h.nms j (by rw [e]; simp) with h3 | ⟨k, h3, h4, h5⟩
        · have := fr_mono hst (Nat.zero_le i) (Nat.le_of_lt hlt); omega
        · have hk := h.inl k h3
          rcases Nat.lt_trichotomy k i with h6 | h6 | h6
          · have := fr_mono hst (show k + 1 ≤ i by omega) (Nat.le_of_lt hlt); omega
          · subst h6; exact hL h3
          · have := fr_mono hst (show i + 1 ≤ k by omega) (Nat.le_of_lt hk); omega
    refine Oper.wp_mono ?_ (hE ρ μ a w hlook h.agr (h.heap.sub fun e he => (hHi e).2 he) hnone)
    rintro a' w' ⟨v, μ', ρ', rfl, h1, h2, h3, h4, hs⟩
    obtain ⟨s1, s2⟩ := hslots h3 hs.le h1
    refine ⟨μ', ρ', (f (i + 1)).H, ⟨(put_size _ _ _).trans h.size, (put_defers _ _ _).trans h.defers, s1, s2, hs.agr, h2, .inl ⟨i, .inr rfl, hki2, ?_, rfl⟩, ?_, hinl, hclos, hs.os.trans h.os, hs.tape.trans h.tape, hs.output.trans h.output,
      Nat.le_trans h.hsize hs.size, ?_, h.le.trans hs.le, fun b hb => (hs.new b hb).elim (h.new b) (fun hx => .inr (hx.elim (fun hle => .inl (Nat.le_trans h.hsize hle)) (fun ⟨e, he, h1⟩ => (h.own e ((hHi e).2 he) b h1).symm))), ?_⟩⟩
    · intro j hj hj2
      rcases hj with hj | rfl
      · rcases Nat.lt_or_ge i j with h5 | h5
        · exfalso
          have hjl := h.inl j hj
          have ho := List.getElem?_eq_getElem hjl
          have := (regOk_at hok ho).chain (by rw [List.getD_eq_getElem?_getD, hj2]; rfl) i 2 hki2 (by omega) h5
          exact hL (h.clos j hj i this)
        · exact h5
      · exact Nat.le_refl _
    · intro j hj
      rcases h4 j hj with h5 | h5
      · exact hnms j h5
      · exact .inr ⟨i, .inr rfl, h5⟩
    · intro k hk hg
      refine (hs.block k (Nat.lt_of_lt_of_le hk h.hsize) fun e he hee => ?_).trans (h.block k hk hg)
      rcases h.own e ((hHi e).2 he) k hee with h1 | h1
      · exact hg h1
      · omega
    · intro e he g hg
      rcases hs.own e he g hg with ⟨e0, h0, h1⟩ | h1
      · exact h.own e0 ((hHi e0).2 h0) g h1
      · exact .inr (Nat.le_trans h.hsize h1)
  · have hki3 : ks[i]? = some 3 := by rw [hki, hk3]
    have hHi : ∀ e, e ∈ (f i).H → e ∈ H := by
      have hb4 : ∀ k n, ks[k]? = some n → n ≠ 0 → n ≠ 3 → k < i → L k := fun k n h1 h2 h3 h4 => hm k (hr.reads hk3 k n h1 h2 h3 h4)
      rcases h.hat with ⟨q, h4, h5, h6, h7⟩ | ⟨h4, h5⟩
      · have hq := h.inl q h4
        have hqi : q < i := by
          rcases Nat.lt_trichotomy q i with h8 | h8 | h8
          · exact h8
          · subst h8; exact absurd h4 hL
          · have ho := List.getElem?_eq_getElem hq
            have := (regOk_at hok ho).chain (by rw [List.getD_eq_getElem?_getD, h5]; rfl) i 3 hki3 (by omega) h8
            exact absurd (h.clos q h4 i this) hL
        intro e
        rw [h7, heap_text hst (show q + 1 ≤ i by omega) (Nat.le_of_lt hlt) (fun k h8 h9 h10 => by have := h6 k (hb4 k 2 h10 (by omega) (by omega) h9) h10; omega) hkl e]
        refine fun h8 => h8.elim id fun ⟨k, h9, h10, h11, h12⟩ => ?_
        have hk := (List.getElem?_eq_some_iff.1 h11).1
        have ho := List.getElem?_eq_getElem (show k < l.length by omega)
        have := (regOk_at hok ho).late (by rw [List.getD_eq_getElem?_getD, h11]; rfl) q h5
        omega
      · intro e
        rw [heap_text hst (Nat.zero_le i) (Nat.le_of_lt hlt) (fun k _ h9 h10 => h4 k (hb4 k 2 h10 (by omega) (by omega) h9) h10) hkl e, h5]
        rintro (h6 | ⟨j, _, h7, h8, h9⟩)
        · exact .inl h6
        · exact .inr ⟨j, hb4 j 1 h8 (by omega) (by omega) h7, h8, h9⟩
    have hheap := h.heap.sub hHi
    have hp : ks.getD i 0 ≠ 1 ∧ ks.getD i 0 ≠ 2 := ⟨by rw [hk3]; simp, by rw [hk3]; simp⟩
    rcases hg with ⟨hg, hN⟩ | ⟨j, d, b, q, s0, s', hg, hj, hc, hq, hse, hN⟩
    · rw [if_pos (hyes hg)]
      refine Oper.wp_mono ?_ (hN ρ μ a w hlook h.agr hheap)
      rintro a' w' ⟨v, μ', rfl, h1, h2⟩
      exact ⟨μ', ρ, H, pure hp h1 h2⟩
    · have h1 : SV.R ρ μ s0 (a.tmps.getD d undef) := h.look hst hok hkl hi hL hm (t := d) (by
        unfold looksG; simp only [hg]
        have : (l[j]?).bind (·.dst) = some d := by simpa using hj
        rw [this]; simp) hc
      have h3 : Region.wanted o (yielded l.toArray a.tmps) = q := by
        simp only [Region.wanted, hg]
        rw [yielded_of hj]
        exact hq ρ μ _ h1
      cases q with
      | true =>
        rw [if_pos h3]
        refine Oper.wp_mono ?_ (hN rfl ρ μ a w hlook h.agr hheap)
        rintro a' w' ⟨v, μ', rfl, h1, h2⟩
        exact ⟨μ', ρ, H, pure hp (by rw [hse]; unfold SV.R; exact ⟨fun _ => h1, fun e => (by cases e)⟩) h2⟩
      | false =>
        rw [if_neg (by rw [h3]; simp)]
        exact ⟨μ, ρ, H, pure hp (by rw [hse]; unfold SV.R; exact ⟨fun e => (by cases e), fun _ => rfl⟩) (Stp.refl h.agr)⟩


theorem Jn.fin {μ : Mem} {ρ : Nms} {H : List Ent} {a : Act} {w : World} (h : Jn C F nt l ks f sf ob (fun i => i < l.length) μ ρ H a w) : Inv F nt (f l.length) μ ρ a w := by
  have hH : ∀ e, e ∈ H ↔ e ∈ (f l.length).H := by
    intro e
    rcases h.hat with ⟨q, h1, h2, h3, h4⟩ | ⟨h1, h2⟩
    · rw [h4, heap_text hst (show q + 1 ≤ l.length by omega) (Nat.le_refl _) (fun k h5 h6 h7 => by have := h3 k h6 h7; omega) hkl e]
      refine ⟨.inl, fun h8 => h8.elim id fun ⟨k, h9, h10, h11, h12⟩ => ?_⟩
      have ho := List.getElem?_eq_getElem h10
      have := (regOk_at hok ho).late (by rw [List.getD_eq_getElem?_getD, h11]; rfl) q h2
      omega
    · rw [heap_text hst (Nat.zero_le _) (Nat.le_refl _) (fun k _ h6 h7 => h1 k h6 h7) hkl e, h2]
      exact ⟨fun h3 => h3.imp id (fun ⟨j, h4, h5⟩ => ⟨j, Nat.zero_le _, h4, h5⟩), fun h3 => h3.imp id (fun ⟨j, _, h4, h5⟩ => ⟨j, h4, h5⟩)⟩
  refine ⟨h.size, h.defers, ?_, h.agr, h.heap.sub fun e he => (hH e).2 he, ?_, h.os, h.tape, h.output, h.hsize, h.block, h.le, h.new, fun e he => h.own e ((hH e).2 he)⟩
  · intro t s hs
    rcases lk_text hst (Nat.le_refl _) hs with ⟨j, o, h1, h2, h3, rfl⟩ | ⟨h1, h2⟩
    · exact h.done j o t h1 h2 h3
    · exact h.rest t s (fun j o hj => h1 j o hj) h2
  · intro i hi
    rcases h.nms i hi with h1 | ⟨j, h1, h2, h3⟩
    · have := fr_mono hst (Nat.zero_le l.length) (Nat.le_refl _); omega
    · have := fr_mono hst (show j + 1 ≤ l.length by omega) (Nat.le_refl _); omega

theorem Jn.any {Q : Exit → Act → World → Prop} (hq : ∀ μ ρ a w, Inv F nt (f l.length) μ ρ a w → Q .normal a w) :
    ∀ (fuel : Nat) (listed : Array Bool) (μ : Mem) (ρ : Nms) (H : List Ent) (a : Act) (w : World), listed.size = l.length → listed.toList.count false ≤ fuel → Jn C F nt l ks f sf ob (Lst l.length listed) μ ρ H a w → wpAny C.P .any l.toArray Q fuel listed a w := by
  have hfin : ∀ (listed : Array Bool) (μ : Mem) (ρ : Nms) (H : List Ent) (a : Act) (w : World), listed.size = l.length → Jn C F nt l ks f sf ob (Lst l.length listed) μ ρ H a w → Region.ready .any l.toArray listed = [] → Q .normal a w := by
    intro listed μ ρ H a w hsz h hr
    have hall := not_ready hsz hr (fun i o ho => (regOk_at hok ho).dep)
    have he : Lst l.length listed = fun i => i < l.length := funext fun i => propext ⟨fun h => h.1, fun h => hall i h⟩
    rw [he] at h
    exact hq _ _ _ _ (h.fin hst hok hkl)
  intro fuel
  induction fuel with
  | zero =>
    intro listed μ ρ H a w hsz hc h
    have hr : Region.ready .any l.toArray listed = [] := by
      cases hr : Region.ready .any l.toArray listed with
      | nil => rfl
      | cons i r =>
        exfalso
        obtain ⟨o, ho, hl, _⟩ := ready_mem (ops := l.toArray) (listed := listed) (i := i) (by rw [hr]; exact List.mem_cons_self)
        have hi : i < listed.size := by rw [hsz]; exact (List.getElem?_eq_some_iff.1 (by simpa using ho)).1
        have hm : false ∈ listed.toList := by
          rw [Array.getD_eq_getD_getElem?, Array.getElem?_eq_getElem hi] at hl
          simp only [Option.getD_some] at hl
          rw [← hl]
          exact Array.getElem_mem_toList hi
        have := List.count_pos_iff.2 hm
        omega
    exact ⟨hr, hfin listed μ ρ H a w hsz h hr⟩
  | succ fuel ih =>
    intro listed μ ρ H a w hsz hc h
    refine ⟨hfin listed μ ρ H a w hsz h, fun i hi => ?_⟩
    obtain ⟨o, ho, hl, hdep⟩ := ready_mem hi
    have ho' : l[i]? = some o := by simpa using ho
    have hlt : i < l.length := (List.getElem?_eq_some_iff.1 ho').1
    have hlf : listed[i]? = some false := by
      rw [Array.getD_eq_getD_getElem?, Array.getElem?_eq_getElem (by omega)] at hl
      rw [Array.getElem?_eq_getElem (by omega)]
      simpa using hl
    have hstep := h.step hst hok hkl ho' (fun hL => by
      have := hL.2
      rw [Array.getD_eq_getD_getElem?, hlf] at this
      simp at this) (fun e he hb => ⟨Nat.lt_trans ((regOk_at hok ho').dep e he hb) hlt, hdep e he hb⟩)
    have hL : (fun j => Lst l.length listed j ∨ j = i) = Lst l.length (listed.setIfInBounds i true) := by
      funext j
      apply propext
      unfold Lst
      rw [Array.getD_eq_getD_getElem?, Array.getD_eq_getD_getElem?, Array.getElem?_setIfInBounds]
      by_cases e : i = j
      · subst e
        rw [if_pos rfl, if_pos (by omega)]
        simp [hlt]
      · rw [if_neg e]
        constructor
        · rintro (h1 | h1)
          · exact h1
          · exact absurd h1.symm e
        · exact .inl
    rw [hL] at hstep
    have hcnt : (listed.setIfInBounds i true).toList.count false ≤ fuel := by
      rw [Array.toList_setIfInBounds]
      have h1 : i < listed.toList.length := by simpa using (by omega : i < listed.size)
      have h2 : listed.toList[i] = false := by
        have := Array.getElem?_eq_some_iff.1 hlf
        simpa using this.2
      have h3 := List.count_set (a := true) (b := false) (l := listed.toList) (i := i) h1
      rw [h2] at h3
      have h4 : listed.toList.count false ≤ fuel + 1 := hc
      have h5 := List.count_pos_iff.2 (h2 ▸ List.getElem_mem h1 : false ∈ listed.toList)
      have h6 : (listed.toList.set i true).count false = listed.toList.count false - 1 := by rw [h3]; rfl
      omega
    unfold wpOp
    rw [ho]
    unfold Next1 at hstep
    dsimp only
    split
    · rename_i hw
      rw [if_pos hw] at hstep
      refine .inl ?_
      have h2 := Oper.wp_mono (K' := wpAny C.P .any l.toArray Q fuel (listed.setIfInBounds i true)) (fun a' w' ⟨μ', ρ', H', h2⟩ => ih _ μ' ρ' H' a' w' (by simpa using hsz) hcnt h2) hstep
      revert h2
      unfold Oper.wp
      generalize (execOp a.eval o).run C.P w = r
      intro h2
      cases r with
      | ok n w' =>
        cases n <;> simp only [Oper.upon] at h2 ⊢ <;> try exact h2
        exact Calls.mono h2 (fun e w'' he => by
          cases e with
          | returned v => exact he
          | panicked c => exact he.elim
          | outgrown => exact (noLets he).elim)
      | halt e w' => cases e <;> simp only [Oper.upon] at h2 <;> exact h2.elim
    · rename_i hw
      rw [if_neg hw] at hstep
      obtain ⟨μ', ρ', H', h2⟩ := hstep
      exact ih _ μ' ρ' H' _ _ (by simpa using hsz) hcnt h2
end

section
variable {C : Cfg} {F : Fx} {nt : Nat} {x y : St} {Q : Exit → St → Prop} {l : List Oper} {ks : List Nat} {ss : List SV}
theorem WP.region {id : Nat} (h : AL C l.toArray nt ks l x ss y) (hq : Q .normal y) : WP C F nt (.region id l.toArray false) Q x := fun μ ρ a w hi =>
  wp_region_lit (h.sound hi fun μ' ρ' a' w' h2 => ⟨y, μ', ρ', hq, h2⟩)
theorem WP.draw {id : Nat} (h : AL C l.toArray nt ks l x ss y) (hok : regOk l ks = true) (hq : Q .normal y) : WP C F nt (.region id l.toArray true) Q x := by
  intro μ ρ a w hi
  obtain ⟨hkl, f, sf, ob, h0, h1, hst⟩ := h.at
  refine wp_region_any C.mixed ?_
  refine Jn.any hst hok hkl (F := F) (fun μ' ρ' a' w' h2 => ⟨y, μ', ρ', hq, by rw [h1] at h2; exact h2⟩) _ _ μ ρ x.H a _ (by simp) (by simp) ?_
  have hno : ∀ i, ¬ Lst l.length (Array.replicate l.toArray.size false) i := by
    rintro i ⟨h2, h3⟩
    rw [Array.getD_eq_getD_getElem?, Array.getElem?_replicate] at h3
    split at h3 <;> simp at h3
  refine ⟨hi.size, hi.defers, fun i o d hL => (hno i hL).elim, ?_, hi.agr, hi.heap, .inr ⟨fun i hL => (hno i hL).elim, fun e => ?_⟩, ?_, fun i hL => (hno i hL).elim, fun i hL => (hno i hL).elim, hi.os, hi.tape, hi.output, hi.hsize, hi.block, hi.le, hi.new, hi.own⟩
  · intro d s _ hs
    rw [h0] at hs
    exact hi.env d s hs
  · rw [h0]
    exact ⟨.inl, fun h => h.elim (fun h => h) fun ⟨j, hj, _⟩ => (hno j hj).elim⟩
  · intro i h2
    rw [h0]
    exact .inl (hi.nms i h2)
end
end Go.Proofs.Ytjgmbgfcffnanac
