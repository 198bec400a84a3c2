/- The logic's begin and end of a function, and its steps without code. Over any program. No condition. -/
import Derived.Test.YtjgmbgfcffnanacLog7
namespace Go.Proofs.Ytjgmbgfcffnanac
open Go.RowKit

/- what is read weaker -/
def ILe (s s' : IV) : Prop := ∀ μ v, s.p μ v → s'.p μ v
theorem ILe.refl {s : IV} : ILe s s := fun _ _ h => h
theorem ILe.any {s : IV} : ILe s IV.any := fun _ _ _ => trivial
theorem ILe.val {u u' : Value} (h : u = u') : ILe (IV.val u) (IV.val u') := h ▸ ILe.refl
theorem ILe.int {a b : Int} (h : a = b) : ILe (IV.int a) (IV.int b) := h ▸ ILe.refl
theorem ILe.bool {a b : Bool} (h : a = b) : ILe (IV.bool a) (IV.bool b) := h ▸ ILe.refl
theorem ILe.nil {α : Type} {k : Nat} {enc : α → List IV} {c : Nat} (hc : Nat.ble c 4611686018427387904 = true) : ILe (IV.val (.slice none 0 c)) (IV.view k enc []) := fun _ v h => ⟨none, c, h, Nat.zero_le _, by have := Nat.le_of_ble_eq_true hc; simp only [maxLen]; omega, .inl rfl⟩
theorem ILe.view {α β : Type} {k : Nat} {enc : α → List IV} {enc' : β → List IV} {xs : List α} {ys : List β} (h : xs.map enc = ys.map enc') : ILe (IV.view k enc xs) (IV.view k enc' ys) := fun μ v ⟨A, c, e, l1, l2, k'⟩ => by
  have hl : xs.length = ys.length := by have := congrArg List.length h; simpa using this
  refine ⟨A, c, by rw [← hl]; exact e, by rw [← hl]; exact l1, l2, ?_⟩
  rcases k' with h0 | ⟨b, o, hA, k'⟩
  · subst h0; exact .inl (List.eq_nil_of_length_eq_zero hl.symm)
  · refine .inr ⟨b, o, hA, fun i y hy => ?_⟩
    have h1 : (xs.map enc)[i]? = some (enc' y) := by rw [h, List.getElem?_map, hy]; rfl
    rw [List.getElem?_map, Option.map_eq_some_iff] at h1
    obtain ⟨x, hx, he⟩ := h1
    rw [← he]; exact k' i x hx
theorem ILe.eq {s s' : IV} (h : s = s') : ILe s s' := h ▸ ILe.refl
inductive ILes : List IV → List IV → Prop
  | nil : ILes [] []
  | cons {s s' : IV} {l l' : List IV} (h : ILe s s') (t : ILes l l') : ILes (s :: l) (s' :: l')
theorem ILes.p {μ : Mem} : ∀ {l l' : List IV} {vs : List Value}, ILes l l' → IVs μ l vs → IVs μ l' vs
  | _, _, _, .nil, h => h
  | _, _, _, .cons h t, ⟨v, vs, e, h1, h2⟩ => ⟨v, vs, e, h _ _ h1, t.p h2⟩
theorem ILes.refl : ∀ {l : List IV}, ILes l l
  | [] => .nil
  | _ :: _ => .cons ILe.refl ILes.refl
theorem ILe.agg {l l' : List IV} (h : ILes l l') : ILe (IV.agg l) (IV.agg l') := fun _ _ ⟨vs, e, k, o⟩ => ⟨vs, e, h.p k, o⟩
theorem ILe.tup {l l' : List IV} (h : ILes l l') : ILe (IV.tup l) (IV.tup l') := fun _ _ ⟨vs, e, k⟩ => ⟨vs, e, h.p k⟩

/- a slot's value, read in immutable memory -/
def ImOf (s : SV) (i : IV) : Prop := ∀ ρ μ v, SV.R ρ μ s v → i.p μ v
theorem ImOf.im {s i : IV} (h : ILe s i) : ImOf (.im s) i := fun _ _ _ hv => h _ _ (R_im.1 hv)
theorem ImOf.agg {l : List SV} {l' l'' : List IV} (h : ims l = some l') (k : ILes l' l'') : ImOf (.agg l) (IV.agg l'') := fun ρ μ v hv => by
  unfold SV.R at hv
  obtain ⟨vs, e, h1, h2⟩ := hv
  rw [ims_map h] at h1
  exact ⟨vs, e, k.p (SV.Rs.im.1 h1), h2⟩
theorem Ev.of {σ : Env} {x : Operand} {s : SV} {i : IV} (h : Ev σ x s) (k : ImOf s i) : Ev σ x (.im i) := h.to fun ρ μ v hv => R_im.2 (k ρ μ v hv)

/- names given anew -/
def rlk : List (Nat × Nat) → Nat → Option Nat
  | [], _ => none
  | (i, j) :: r, n => match Nat.beq i n with
    | true => some j
    | false => rlk r n
def ren (rn : List (Nat × Nat)) (ρ : Nms) : Nms := fun i => match rlk rn i with
  | some j => ρ j
  | none => none
mutual
inductive SLe (rn : List (Nat × Nat)) : SV → SV → Prop
  | im {s s' : IV} (h : ILe s s') : SLe rn (.im s) (.im s')
  | off {i j o o' : Nat} (h : rlk rn i = some j) (ho : o = o') : SLe rn (.off j o) (.off i o')
  | row {i j n n' : Nat} (h : rlk rn i = some j) (hn : n = n') : SLe rn (.row j n) (.row i n')
  | agg {l l' : List SV} (h : SLes rn l l') : SLe rn (.agg l) (.agg l')
  | imAgg {l : List SV} {s : IV} (h : ImOf (.agg l) s) : SLe rn (.agg l) (.im s)
  | fn {f : FuncId} {l l' : List SV} (h : SLes rn l l') : SLe rn (.fn f l) (.fn f l')
  | is {u : Value} {s s' : SV} (h : SLe rn s s') : SLe rn (.is u s) (.is u s')
  | of {u : Value} {s s' : SV} (h : SLe rn s s') : SLe rn (.is u s) s'
inductive SLes (rn : List (Nat × Nat)) : List SV → List SV → Prop
  | nil : SLes rn [] []
  | cons {s s' : SV} {l l' : List SV} (h : SLe rn s s') (t : SLes rn l l') : SLes rn (s :: l) (s' :: l')
end
mutual
theorem SLe.p {rn : List (Nat × Nat)} {ρ : Nms} {μ : Mem} : ∀ {s s' : SV} {v : Value}, SLe rn s s' → SV.R ρ μ s v → SV.R (ren rn ρ) μ s' v
  | _, _, v, .im h, k => R_im.2 (h _ _ (R_im.1 k))
  | _, _, v, .off h ho, k => by unfold SV.R at k ⊢; obtain ⟨g, h1, h2⟩ := k; exact ⟨g, by unfold ren; rw [h]; exact h1, by rw [← ho]; exact h2⟩
  | _, _, v, .row h hn, k => by unfold SV.R at k ⊢; subst hn; exact ⟨by unfold ren; rw [h]; exact k.1, k.2⟩
  | _, _, v, .agg h, k => by unfold SV.R at k ⊢; obtain ⟨vs, e, h1, h2⟩ := k; exact ⟨vs, e, SLes.p h h1, h2⟩
  | _, _, v, .imAgg h, k => R_im.2 (h _ _ _ k)
  | _, _, v, .fn h, k => by unfold SV.R at k ⊢; obtain ⟨vs, e, h1⟩ := k; exact ⟨vs, e, SLes.p h h1⟩
  | _, _, v, .is h, k => by unfold SV.R at k ⊢; exact ⟨k.1, SLe.p h k.2⟩
  | _, _, v, .of h, k => by unfold SV.R at k; exact SLe.p h k.2
theorem SLes.p {rn : List (Nat × Nat)} {ρ : Nms} {μ : Mem} : ∀ {l l' : List SV} {vs : List Value}, SLes rn l l' → SV.Rs ρ μ l vs → SV.Rs (ren rn ρ) μ l' vs
  | _, _, vs, .nil, k => by unfold SV.Rs at k ⊢; exact k
  | _, _, vs, .cons h t, k => by unfold SV.Rs at k ⊢; obtain ⟨v, vs', e, h1, h2⟩ := k; exact ⟨v, vs', e, SLe.p h h1, SLes.p t h2⟩
end
inductive SubE (rn : List (Nat × Nat)) (σ : Env) : Env → Prop
  | nil : SubE rn σ []
  | cons {d : Nat} {s s' : SV} {σ' : Env} (h : lk σ d = some s) (hs : SLe rn s s') (t : SubE rn σ σ') : SubE rn σ ((d, s') :: σ')
theorem SubE.at {rn : List (Nat × Nat)} {σ σ' : Env} (h : SubE rn σ σ') : ∀ {t : Nat} {s' : SV}, lk σ' t = some s' → ∃ s, lk σ t = some s ∧ SLe rn s s' := by
  induction h with
  | nil => intro t s' h; cases h
  | @cons d s s1 σ' h hs t ih =>
    intro t s' h'
    simp only [lk] at h'
    cases hb : Nat.beq d t with
    | true => rw [hb] at h'; injection h' with h'; subst h'; rw [← Nat.eq_of_beq_eq_true hb]; exact ⟨s, h, hs⟩
    | false => rw [hb] at h'; exact ih h'
inductive ObLe (rn : List (Nat × Nat)) : HObj → HObj → Prop
  | blk {t : TypeId} {cs cs' : List SV} (h : SLes rn cs cs') : ObLe rn (.blk t cs) (.blk t cs')
  | row {t k : Nat} {α : Type} {enc : α → List IV} {xs xs' : List α} (h : xs = xs') : ObLe rn (.row t k enc xs) (.row t k enc xs')
inductive SubH (rn : List (Nat × Nat)) (H : List Ent) : List Ent → Prop
  | nil : SubH rn H []
  | cons {i j : Nat} {ob ob' : HObj} {H' : List Ent} (hr : rlk rn i = some j) (hh : hget H j = some ob) (ho : ObLe rn ob ob') (t : SubH rn H H') : SubH rn H ((i, ob') :: H')
theorem SubH.at {rn : List (Nat × Nat)} {H H' : List Ent} (h : SubH rn H H') : ∀ {e : Ent}, e ∈ H' → ∃ j ob, rlk rn e.1 = some j ∧ (j, ob) ∈ H ∧ ObLe rn ob e.2 := by
  induction h with
  | nil => intro e h; cases h
  | cons hr hh ho t ih =>
    intro e he
    rcases List.mem_cons.1 he with rfl | he
    · exact ⟨_, _, hr, hget_mem hh, ho⟩
    · exact ih he
/- no two names of one, all below -/
def rnOk : List (Nat × Nat) → Nat → Bool
  | [], _ => true
  | (i, j) :: r, n => Nat.blt i n && r.all (fun p => !Nat.beq p.2 j) && rnOk r n
theorem rlk_mem : ∀ {rn : List (Nat × Nat)} {i j : Nat}, rlk rn i = some j → (i, j) ∈ rn
  | (a, b) :: r, i, j, h => by
    simp only [rlk] at h
    cases hb : Nat.beq a i with
    | true => rw [hb] at h; injection h with h; subst h; rw [Nat.eq_of_beq_eq_true hb]; exact List.mem_cons_self
    | false => rw [hb] at h; exact List.mem_cons_of_mem _ (rlk_mem h)
theorem rnOk_lt : ∀ {rn : List (Nat × Nat)} {n : Nat}, rnOk rn n = true → ∀ p ∈ rn, p.1 < n
  | (i, j) :: r, n, h, p, hp => by
    simp only [rnOk, Bool.and_eq_true] at h
    rcases List.mem_cons.1 hp with rfl | hp
    · exact Nat.blt_eq ▸ h.1.1
    · exact rnOk_lt h.2 p hp
theorem rnOk_inj : ∀ {rn : List (Nat × Nat)} {n : Nat}, rnOk rn n = true → ∀ {i i' j : Nat}, rlk rn i = some j → rlk rn i' = some j → i = i'
  | [], _, _, i, i', j, h, _ => by cases h
  | (a, b) :: r, n, h, i, i', j, h1, h2 => by
    simp only [rnOk, Bool.and_eq_true] at h
    have hno : ∀ x, rlk r x = some b → False := fun x hx => by
      have := List.all_eq_true.1 h.1.2 _ (rlk_mem hx)
      simp [Nat.beq_refl] at this
    simp only [rlk] at h1 h2
    cases hb : Nat.beq a i with
    | true =>
      rw [hb] at h1
      injection h1 with h1
      subst h1
      cases hb' : Nat.beq a i' with
      | true => rw [← Nat.eq_of_beq_eq_true hb, ← Nat.eq_of_beq_eq_true hb']
      | false => rw [hb'] at h2; exact (hno _ h2).elim
    | false =>
      rw [hb] at h1
      cases hb' : Nat.beq a i' with
      | true => rw [hb'] at h2; injection h2 with h2; subst h2; exact (hno _ h1).elim
      | false => rw [hb'] at h2; exact rnOk_inj h.2 h1 h2

section
variable {C : Cfg} {F : Fx} {nt : Nat} {x : St} {σ σ' : Env} {H H' : List Ent} {fr fr' : Nat}
theorem Shift.sub (rn : List (Nat × Nat)) (hr : rnOk rn fr' = true) (hσ : SubE rn σ σ') (hH : SubH rn H H') : Shift F nt ⟨σ, H, fr⟩ ⟨σ', H', fr'⟩ := fun μ ρ a w hi => by
  have hent : ∀ e ∈ H', EntOk (ren rn ρ) μ w e ∧ ∃ j ob, rlk rn e.1 = some j ∧ (j, ob) ∈ H ∧ eb (ren rn ρ) e = eb ρ (j, ob) := fun e he => by
    obtain ⟨j, ob, h1, h2, h3⟩ := hH.at he
    obtain ⟨i, ob'⟩ := e
    have h4 := hi.heap.1 _ h2
    have h5 : ren rn ρ i = ρ j := by unfold ren; rw [h1]
    refine ⟨?_, j, ob, h1, h2, by unfold eb; rw [h5]⟩
    cases h3 with
    | blk h => obtain ⟨g, us, k1, k2, k3, k4⟩ := h4; exact ⟨g, us, by rw [h5]; exact k1, k2, h.p k3, k4⟩
    | row h => subst h; obtain ⟨v, us, k1, k2⟩ := h4; exact ⟨v, us, by rw [h5]; exact k1, k2⟩
  refine ⟨μ, ren rn ρ, hi.size, hi.defers, fun t s' hs => ?_, hi.agr, ⟨fun e he => (hent e he).1, fun e he e' he' hne g hg hg' => ?_⟩, fun i hi' => ?_, hi.os, hi.tape, hi.output, hi.hsize, hi.block, hi.le, hi.new, fun e he g hg => ?_⟩
  · obtain ⟨s, h1, h2⟩ := hσ.at hs
    exact h2.p (hi.env t s h1)
  · obtain ⟨_, j, ob, h1, h2, h3⟩ := hent e he
    obtain ⟨_, j', ob', h1', h2', h3'⟩ := hent e' he'
    rw [h3] at hg
    rw [h3'] at hg'
    exact hi.heap.2 _ h2 _ h2' (fun e2 => hne (rnOk_inj hr h1 (by rw [h1']; exact congrArg some e2.symm))) g hg hg'
  · unfold ren at hi'
    cases e : rlk rn i with
    | none => rw [e] at hi'; exact absurd rfl hi'
    | some j => exact rnOk_lt hr _ (rlk_mem e)
  · obtain ⟨_, j, ob, h1, h2, h3⟩ := hent e he
    rw [h3] at hg
    exact hi.own _ h2 g hg

theorem Inv.slot {μ : Mem} {ρ : Nms} {a : Act} {w : World} (h : Inv F nt ⟨σ, H, fr⟩ μ ρ a w) {d : Nat} {s : SV} (hs : SV.R ρ μ s (a.tmps.getD d undef)) : Inv F nt ⟨(d, s) :: σ, H, fr⟩ μ ρ a w :=
  ⟨h.size, h.defers, fun t s' e => by
    simp only [lk] at e
    cases hb : Nat.beq d t with
    | true => rw [hb] at e; injection e with e; subst e; rw [← Nat.eq_of_beq_eq_true hb]; exact hs
    | false => rw [hb] at e; exact h.env t s' e, h.agr, h.heap, h.nms, h.os, h.tape, h.output, h.hsize, h.block, h.le, h.new, h.own⟩
theorem Inv.fresh {μ : Mem} {ρ : Nms} {a : Act} {w : World} {x : St} (h : Inv F nt x μ ρ a w) : ρ x.fr = none := by
  cases e : ρ x.fr with
  | none => rfl
  | some u => exact absurd (h.nms x.fr (by rw [e]; simp)) (Nat.lt_irrefl _)

/- nil as a row of the call's own -/
theorem Shift.row0 {α : Type} (d et k : Nat) (enc : α → List IV) (hk : ∀ x, (enc x).length = k) (h : lk σ d = some (.im (IV.val (.slice none 0 0)))) : Shift F nt ⟨σ, H, fr⟩ ⟨(d, .row fr 0) :: σ, (fr, .row et k enc []) :: H, fr + 1⟩ := fun μ ρ a w hi => by
  have h1 : a.tmps.getD d undef = .slice none 0 0 := R_im.1 (hi.env d _ h)
  have h2 := hi.new1 (v := .slice none 0 0) (ob := .row et k enc []) (Stp.refl hi.agr) ⟨_, [], upd_at _ _ _, World.ownsRow_nil _ _ _ _, rfl, hk, ⟨(fun g hg => by cases hg), (fun u hu => by cases hu)⟩⟩ (fun g hg => by cases hg)
  exact ⟨μ, _, h2.slot (by unfold SV.R; exact ⟨by rw [h1]; exact upd_at _ _ _, none, 0, h1, .inl rfl⟩)⟩

/- what is owned turns no more: a row -/
theorem Inv.addMem {μ : Mem} {ρ : Nms} {a : Act} {w : World} (h : Inv F nt ⟨σ, H, fr⟩ μ ρ a w) {g : Nat} {cs : Array Value} {t : TypeId} {i : Nat} {o : HObj} (hm : (i, o) ∈ H) (hg : eb ρ (i, o) = some g) (hh : w.heap[g]? = some (.cells cs t (0, 0))) :
    Inv F nt ⟨σ, hdel H i, fr⟩ (μ.add g cs) ρ a w ∧ Mem.le μ (μ.add g cs) := by
  have h0 := ((h.heap.1 _ hm).lt hg).2
  have hle : Mem.le μ (μ.add g cs) := fun b c hb => by
    unfold Mem.add
    by_cases e : b = g
    · subst e; rw [h0] at hb; cases hb
    · rw [if_neg e]; exact hb
  refine ⟨⟨h.size, h.defers, h.env.mono (Nms.le.refl _) hle, fun b c hb => ?_, ⟨fun e he => ?_, fun e he e' he' => h.heap.2 e (hdel_mem he).1 e' (hdel_mem he').1⟩, h.nms, h.os, h.tape, h.output, h.hsize, h.block, h.le.trans hle, fun b hb => ?_, fun e he => h.own e (hdel_mem he).1⟩, hle⟩
  · unfold Mem.add at hb
    by_cases e : b = g
    · rw [if_pos e] at hb; injection hb with hb; subst hb; subst e; exact ⟨t, (0, 0), hh⟩
    · rw [if_neg e] at hb; exact h.agr b c hb
  · obtain ⟨h1, h2⟩ := hdel_mem he
    refine (h.heap.1 e h1).keep (Nms.le.refl _) hle fun k hk => ⟨rfl, ?_⟩
    unfold Mem.add
    rw [if_neg (fun e2 => h.heap.2 _ hm e h1 (fun e3 => h2 e3.symm) g hg (by rw [← e2]; exact hk))]
    exact ((h.heap.1 e h1).lt hk).2
  · unfold Mem.add at hb
    by_cases e : b = g
    · subst e
      exact .inr (h.own _ hm b hg).symm
    · rw [if_neg e] at hb; exact h.new b hb
theorem row_view {α : Type} {ρ : Nms} {μ : Mem} {w : World} {i : Nat} {t k : Nat} {enc : α → List IV} {xs : List α} (h : EntOk ρ μ w (i, .row t k enc xs)) :
    (∃ v, ρ i = some v ∧ blk v = none ∧ ∀ ν, (IV.view k enc xs).p ν v) ∨
    ∃ v g cs, ρ i = some v ∧ eb ρ (i, .row t k enc xs) = some g ∧ w.heap[g]? = some (.cells cs t (0, 0)) ∧ (Mem.le μ (μ.add g cs) → (IV.view k enc xs).p (μ.add g cs) v) := by
  obtain ⟨v, us, h1, h2, h3, h4, h5, h6⟩ := h
  rcases h2.2 with ⟨rfl, hn⟩ | ⟨g, cap, cur, rfl, _, hg, hnc, hcm, hcs, htake⟩
  · have : xs = [] := List.eq_nil_of_length_eq_zero hn
    subst this
    exact .inl ⟨_, h1, rfl, fun ν => ⟨none, 0, rfl, Nat.le_refl _, by simp [maxLen], .inl rfl⟩⟩
  · refine .inr ⟨_, g, cur, h1, by unfold eb; rw [h1]; rfl, hg, fun hle => ⟨_, cap, rfl, hnc, hcm, .inr ⟨g, 0, rfl, fun q y hy j s hj => ?_⟩⟩⟩
    have h7 : ∀ (xs : List α) (q : Nat), xs[q]? = some y → (xs.flatMap enc)[q * k + j]? = some s := by
      intro xs
      induction xs with
      | nil => intro q h; simp at h
      | cons z zs ih =>
        intro q h
        rw [List.flatMap_cons]
        cases q with
        | zero =>
          simp at h; subst h
          have : j < (enc z).length := (List.getElem?_eq_some_iff.1 hj).1
          rw [Nat.zero_mul, Nat.zero_add, List.getElem?_append_left this]; exact hj
        | succ q =>
          rw [List.getElem?_append_right (by rw [h4 z, Nat.add_mul]; omega), h4 z]
          rw [show (q + 1) * k + j - k = q * k + j by rw [Nat.add_mul]; omega]
          exact ih q (by simpa using h)
    obtain ⟨u, h8, h9⟩ := h3.get (h7 xs q hy)
    refine ⟨cur, u, by unfold Mem.add; rw [if_pos rfl], ?_, s.mono hle h9, h6 u (List.mem_of_getElem? h8)⟩
    rw [← htake, List.getElem?_take] at h8
    split at h8
    · rw [Nat.zero_add]; simpa using h8
    · cases h8
theorem Shift.frzRow {α : Type} (d : Nat) {i n t k : Nat} {enc : α → List IV} {xs : List α} (h : lk σ d = some (.row i n)) (hh : hget H i = some (.row t k enc xs)) : Shift F nt ⟨σ, H, fr⟩ ⟨(d, .im (IV.view k enc xs)) :: σ, hdel H i, fr⟩ := fun μ ρ a w hi => by
  have h1 := hi.env d _ h
  unfold SV.R at h1
  have hm := hget_mem hh
  rcases row_view (hi.heap.1 _ hm) with ⟨v, h2, h3, h4⟩ | ⟨v, g, cs, h2, h3, h4, h5⟩
  · have hi2 : Inv F nt ⟨σ, hdel H i, fr⟩ μ ρ a w := ⟨hi.size, hi.defers, hi.env, hi.agr, hi.heap.sub fun e he => (hdel_mem he).1, hi.nms, hi.os, hi.tape, hi.output, hi.hsize, hi.block, hi.le, hi.new, fun e he => hi.own e (hdel_mem he).1⟩
    refine ⟨μ, ρ, hi2.slot (R_im.2 ?_)⟩
    rw [h2] at h1; rw [← Option.some.inj h1.1]; exact h4 μ
  · obtain ⟨h6, h7⟩ := hi.addMem hm h3 h4
    refine ⟨_, ρ, h6.slot (R_im.2 ?_)⟩
    rw [h2] at h1; rw [← Option.some.inj h1.1]; exact h5 h7
theorem Shift.frzBlk (d : Nat) {i o t : Nat} {cs : List SV} {l : List IV} (h : lk σ d = some (.off i o)) (hh : hget H i = some (.blk t cs)) (hl : ims cs = some l) : Shift F nt ⟨σ, H, fr⟩ ⟨(d, .im (IV.ptr (l.drop o))) :: σ, hdel H i, fr⟩ := fun μ ρ a w hi => by
  have h1 := hi.env d _ h
  unfold SV.R at h1
  obtain ⟨g, h2, h3⟩ := h1
  have hm := hget_mem hh
  obtain ⟨g', us, h4, h5, h6, h7, h8⟩ := hi.heap.1 _ hm
  rw [h4] at h2
  simp only [Option.bind_some, blk, Option.some.injEq] at h2
  subst h2
  obtain ⟨h9, h10⟩ := hi.addMem (g := g') hm (by unfold eb; rw [h4]; rfl) h5
  refine ⟨_, ρ, h9.slot (R_im.2 ⟨g', o, h3, ?_⟩)⟩
  rw [ims_map hl] at h6
  have h11 : Cells (μ.add g' us) g' 0 l := fun j s hj => by
    obtain ⟨v, h12, h13⟩ := (SV.Rs.im.1 h6).get hj
    exact ⟨us, v, by unfold Mem.add; rw [if_pos rfl], by rw [Nat.zero_add]; simpa using h12, s.mono h10 h13, h8 v (List.mem_of_getElem? h12)⟩
  have := h11.drop o
  rwa [Nat.zero_add] at this
/- a row that lies in a cell of a block -/
theorem Shift.frzIn {α : Type} (p j : Nat) {i n t bt k : Nat} {cs : List SV} {enc : α → List IV} {xs : List α} (hp : hget H p = some (.blk bt cs)) (hj : cs[j]? = some (.row i n)) (hh : hget H i = some (.row t k enc xs)) (hne : Nat.beq p i = false) :
    Shift F nt ⟨σ, H, fr⟩ ⟨σ, hset (hdel H i) p (.blk bt (cs.set j (.im (IV.view k enc xs)))), fr⟩ := fun μ ρ a w hi => by
  have hm := hget_mem hh
  have hmp := hget_mem hp
  have hpi : p ≠ i := Nat.ne_of_beq_eq_false hne
  have key : ∀ ν, Inv F nt ⟨σ, hdel H i, fr⟩ ν ρ a w → (∀ v, ρ i = some v → (IV.view k enc xs).p ν v) → Inv F nt ⟨σ, hset (hdel H i) p (.blk bt (cs.set j (.im (IV.view k enc xs)))), fr⟩ ν ρ a w := by
    intro ν h1 h2
    have hmd : (p, HObj.blk bt cs) ∈ hdel H i := by
      have : ∀ (H : List Ent), (p, HObj.blk bt cs) ∈ H → (p, HObj.blk bt cs) ∈ hdel H i := by
        intro H
        induction H with
        | nil => intro h; cases h
        | cons e H ih =>
          obtain ⟨q, o⟩ := e
          intro h
          simp only [hdel]
          cases hb : Nat.beq q i with
          | true =>
            rcases List.mem_cons.1 h with h | h
            · injection h with h _; subst h; exact absurd (Nat.eq_of_beq_eq_true hb) hpi
            · exact ih h
          | false =>
            rcases List.mem_cons.1 h with h | h
            · rw [h]; exact List.mem_cons_self
            · exact List.mem_cons_of_mem _ (ih h)
      exact this H hmp
    have h3 : EntOk ρ ν w (p, .blk bt (cs.set j (.im (IV.view k enc xs)))) := by
      obtain ⟨g, us, k1, k2, k3, k4, k5⟩ := h1.heap.1 _ hmd
      refine ⟨g, us, k1, k2, ?_, k4, k5⟩
      obtain ⟨v, k6, k7⟩ := k3.get hj
      unfold SV.R at k7
      have k8 := k3.set (s := .im (IV.view k enc xs)) (v := v) (R_im.2 (h2 v k7.1)) j
      have : us.toList.set j v = us.toList := by
        apply List.ext_getElem?
        intro q
        rw [List.getElem?_set]
        split
        · rename_i e; subst e; split
          · rw [k6]
          · rename_i hlt; rw [List.getElem?_eq_none (by omega)]
        · rfl
      rwa [this] at k8
    obtain ⟨h4, _⟩ := heap_set h1.heap h1.agr hmd ⟨rfl, rfl, rfl, Nat.le_refl _, fun _ _ _ => rfl⟩ h3
    refine ⟨h1.size, h1.defers, h1.env, h1.agr, h4, h1.nms, h1.os, h1.tape, h1.output, h1.hsize, h1.block, h1.le, h1.new, fun e he g hg => ?_⟩
    rcases hset_mem he with rfl | ⟨h5, _⟩
    · exact h1.own _ hmd g hg
    · exact h1.own e h5 g hg
  rcases row_view (hi.heap.1 _ hm) with ⟨v, h2, h3, h4⟩ | ⟨v, g, us, h2, h3, h4, h5⟩
  · refine ⟨μ, ρ, key μ ⟨hi.size, hi.defers, hi.env, hi.agr, hi.heap.sub fun e he => (hdel_mem he).1, hi.nms, hi.os, hi.tape, hi.output, hi.hsize, hi.block, hi.le, hi.new, fun e he => hi.own e (hdel_mem he).1⟩ fun u hu => ?_⟩
    rw [h2] at hu; rw [← Option.some.inj hu]; exact h4 μ
  · obtain ⟨h6, h7⟩ := hi.addMem hm h3 h4
    refine ⟨_, ρ, key _ h6 fun u hu => ?_⟩
    rw [h2] at hu; rw [← Option.some.inj hu]; exact h5 h7

/- a length's bound -/
theorem WP.len {α : Type} {c : Code} {Q : Exit → St → Prop} (d : Nat) {k : Nat} {enc : α → List IV} {xs : List α} (h : lk σ d = some (.im (IV.view k enc xs))) (hw : xs.length ≤ 9223372036854775807 → WP C F nt c Q ⟨σ, H, fr⟩) : WP C F nt c Q ⟨σ, H, fr⟩ := fun μ ρ a w hi => by
  obtain ⟨A, n, _, h1, h2, _⟩ := R_im.1 (hi.env d _ h)
  exact hw (by simp only [maxLen] at h2; omega) μ ρ a w hi
end

/- the begin of a function -/
def env0 : Nat → List IV → Env
  | _, [] => []
  | i, s :: l => (i, .im s) :: env0 (i + 1) l
theorem env0_at : ∀ {l : List IV} {i : Nat} {t : Nat} {s : SV}, lk (env0 i l) t = some s → ∃ j s', t = i + j ∧ l[j]? = some s' ∧ s = .im s'
  | [], i, t, s, h => by cases h
  | s0 :: l, i, t, s, h => by
    simp only [env0, lk] at h
    cases hb : Nat.beq i t with
    | true => rw [hb] at h; injection h with h; exact ⟨0, s0, by rw [← Nat.eq_of_beq_eq_true hb]; rfl, rfl, h.symm⟩
    | false =>
      rw [hb] at h
      obtain ⟨j, s', h1, h2, h3⟩ := env0_at h
      exact ⟨j + 1, s', by omega, by simpa using h2, h3⟩
def RetOk (C : Cfg) (F : Fx) (nt : Nat) (fn : Func) (s : IV) (y : St) : Prop := ∀ μ ρ a w, Inv F nt y μ ρ a w → ∃ v μ', (results fn a.tmps).run C.P w = .ok v w ∧ s.p μ' v ∧ Mem.le F.μ0 μ' ∧ (∀ b, μ' b ≠ none → F.μ0 b ≠ none ∨ F.w0.heap.size ≤ b ∨ F.G b) ∧ Agr μ' w
def FnQ (C : Cfg) (F : Fx) (nt : Nat) (fn : Func) (s : IV) : Exit → St → Prop
  | .normal, y => RetOk C F nt fn s y
  | .ret, y => RetOk C F nt fn s y
  | _, _ => False
theorem Fn.of_wp {C : Cfg} {f : FuncId} {fn : Func} {c : Code} {args : List IV} {s : IV} (nt : Nat) (hf : C.P.funcs[f]? = some fn) (hb : fn.body = some c) (hname : (fn.name == "runtime.NumGoroutine") = false) (hnt : fn.ntmps = nt) (hn : Nat.ble args.length nt = true)
    (h : ∀ F : Fx, F.D = [] → (∀ g, ¬ F.G g) → WP C F nt c (FnQ C F nt fn s) ⟨env0 0 args, [], 0⟩) : Fn C f args s := by
  refine ⟨⟨fn, hf, by rw [hb]; rfl, hname⟩, fun μ w vs hvs ha => ?_⟩
  have hlen := hvs.length
  refine calls_of_wp hf hb ?_
  have hle := Nat.le_of_ble_eq_true hn
  have hi : Inv ⟨w, μ, fun _ => False, []⟩ nt ⟨env0 0 args, [], 0⟩ μ (fun _ => none) { tmps := vs.toArray ++ Array.replicate (fn.ntmps - vs.toArray.size) undef, defers := [] } w := by
    refine ⟨by simp; omega, rfl, fun t s hs => ?_, ha, ⟨(fun e he => by cases he), (fun e he => by cases he)⟩, fun i hi => absurd rfl hi, rfl, rfl, rfl, Nat.le_refl _, fun _ _ _ => rfl, Mem.le.refl _, fun b hb => .inl hb, (fun e he => by cases he)⟩
    obtain ⟨j, s', h1, h2, rfl⟩ := env0_at hs
    rw [Nat.zero_add] at h1
    subst h1
    obtain ⟨v, h3, h4⟩ := hvs.get h2
    have hj : t < vs.length := (List.getElem?_eq_some_iff.1 h3).1
    refine R_im.2 ?_
    have : (vs.toArray ++ Array.replicate (fn.ntmps - vs.toArray.size) undef).getD t undef = v := by
      rw [Array.getD_eq_getD_getElem?, Array.getElem?_append_left (by simpa using hj)]
      simp [h3]
    rw [this]; exact h4
  refine wp_mono (h ⟨w, μ, fun _ => False, []⟩ rfl (fun _ h => h) μ _ _ w hi) ?_
  rintro e a' w' ⟨y, μ', ρ', hq, hy⟩
  have key : RetOk C ⟨w, μ, fun _ => False, []⟩ nt fn s y → a'.defers = [] ∧ ∃ v, (results fn a'.tmps).run C.P w' = .ok v w' ∧ ∃ v_1 μ', Ending.returned v = .returned v_1 ∧ s.p μ' v_1 ∧ Stp μ w μ' w' := fun hr => by
    obtain ⟨v, ν, h1, h2, h3, h4, h5⟩ := hr μ' ρ' a' w' hy
    exact ⟨hy.defers, v, h1, v, ν, rfl, h2, ⟨⟨hy.os, hy.tape, hy.output, hy.hsize, fun k hk => hy.block k hk (fun h => h)⟩, h3, fun b hb => (h4 b hb).imp id (fun hx => hx.elim id (fun hf => hf.elim)), h5⟩⟩
  cases e with
  | normal => exact key hq
  | ret => exact key hq
  | _ => exact hq.elim

/- its end -/
section
variable {C : Cfg} {F : Fx} {nt : Nat} {fn : Func} {s : IV} {x y : St}
theorem RetOk.shift (h : Shift F nt x y) (k : RetOk C F nt fn s y) : RetOk C F nt fn s x := fun μ ρ a w hi => by
  obtain ⟨μ', ρ', h1⟩ := h μ ρ a w hi
  exact k μ' ρ' a w h1
inductive ResV (C : Cfg) (y : St) : ResultVar → IV → Prop
  | tmp {t : Nat} {sv : SV} {s : IV} (h : lk y.σ t = some sv) (k : ImOf sv s) : ResV C y (.tmp t) s
  | cellI {t : Nat} {ty : TypeId} {dt : TyInf} {l : List IV} {sv : SV} {s : IV} (h : lk y.σ t = some (.im (IV.ptr l))) (ht : C.tt ty = some dt) (hl : ldI dt l = some sv) (k : ImOf sv s) : ResV C y (.cell t ty) s
  | cell {t i : Nat} {ty bt : TypeId} {dt : TyInf} {cs : List SV} {sv : SV} {s : IV} (h : lk y.σ t = some (.off i 0)) (hh : hget y.H i = some (.blk bt cs)) (ht : C.tt ty = some dt) (hl : ldS dt cs = some sv) (k : ImOf sv s) : ResV C y (.cell t ty) s
inductive ResVs (C : Cfg) (y : St) : List ResultVar → List IV → Prop
  | nil : ResVs C y [] []
  | cons {r : ResultVar} {s : IV} {l : List ResultVar} {l' : List IV} (h : ResV C y r s) (t : ResVs C y l l') : ResVs C y (r :: l) (s :: l')
def resOf (a : Act) : ResultVar → Sem Value
  | .tmp t => pure (a.tmps.getD t undef)
  | .cell b t => do loadVar t (← asAddr (a.tmps.getD b undef))
theorem ResV.run {μ : Mem} {ρ : Nms} {a : Act} {w : World} (hi : Inv F nt y μ ρ a w) {r : ResultVar} {s : IV} (h : ResV C y r s) : ∃ v, (resOf a r).run C.P w = .ok v w ∧ s.p μ v := by
  cases h with
  | tmp h k => exact ⟨_, rfl, k _ _ _ (hi.env _ _ h)⟩
  | @cellI t ty dt l sv s h ht hl k =>
    have h0 := R_im.1 (hi.env _ _ h)
    obtain ⟨v, h8, h9⟩ := run_load_ptr (ρ := ρ) hi.agr (C.ok _ _ ht) hl h0
    obtain ⟨b, o, h2, _⟩ := h0
    refine ⟨v, ?_, k _ _ _ h9⟩
    show (do loadVar ty (← asAddr (a.tmps.getD t undef)) : Sem Value).run C.P w = _
    rw [h2] at h8 ⊢
    exact h8
  | @cell t i ty bt dt cs sv s h hh ht hl k =>
    have h0 := hi.env _ _ h
    unfold SV.R at h0
    obtain ⟨g, h1, h2⟩ := h0
    obtain ⟨g', us, h3, h4, h5, h6, h7⟩ := hi.heap.1 _ (hget_mem hh)
    rw [h3] at h1
    simp only [Option.bind_some, blk, Option.some.injEq] at h1
    subst h1
    obtain ⟨v, h8, h9⟩ := run_load_blk (ρ := ρ) (o := 0) (C.ok _ _ ht) h4 h5 h7 (by simpa using hl)
    refine ⟨v, ?_, k _ _ _ h9⟩
    show (do loadVar ty (← asAddr (a.tmps.getD t undef)) : Sem Value).run C.P w = _
    rw [h2]
    exact h8
theorem ResVs.run {μ : Mem} {ρ : Nms} {a : Act} {w : World} (hi : Inv F nt y μ ρ a w) : ∀ {rs : List ResultVar} {ss : List IV}, ResVs C y rs ss → ∃ vs : List Value, (rs.mapM (resOf a)).run C.P w = .ok vs w ∧ IVs μ ss vs
  | _, _, .nil => ⟨[], by simp, rfl⟩
  | _, _, .cons h t => by
    obtain ⟨v, h1, h2⟩ := h.run hi
    obtain ⟨vs, h3, h4⟩ := t.run hi
    exact ⟨v :: vs, by simp only [List.mapM_cons, Sem.run_bind, h1, Result.andThen_ok, h3, Sem.run_pure], v, vs, rfl, h2, h4⟩
theorem results_eq (fn : Func) (a : Act) : results fn a.tmps = (fn.results.mapM (resOf a) >>= fun vs => pure (if h : vs.size = 1 then vs[0] else .tuple vs)) := by
  unfold results
  congr 1
theorem results_run {rs : List ResultVar} (hr : fn.results = rs.toArray) {a : Act} {w : World} {vs : List Value} (h : (rs.mapM (resOf a)).run C.P w = .ok vs w) : (results fn a.tmps).run C.P w = .ok (if h : vs.toArray.size = 1 then vs.toArray[0] else .tuple vs.toArray) w := by
  rw [results_eq, hr]
  have h2 : (rs.toArray.mapM (resOf a)).run C.P w = .ok vs.toArray w := by
    rw [List.mapM_toArray]
    simp [h]
  rw [Sem.run_bind, h2]
  simp only [Result.andThen_ok, Sem.run_pure]
theorem RetOk.one {r : ResultVar} (hr : fn.results = #[r]) (h : ResV C y r s) : RetOk C F nt fn s y := fun μ ρ a w hi => by
  obtain ⟨v, h1, h2⟩ := h.run hi
  refine ⟨v, μ, ?_, h2, hi.le, hi.new, hi.agr⟩
  rw [results_run (rs := [r]) (vs := [v]) hr (by simp [h1])]
  rfl
theorem RetOk.tup {rs : List ResultVar} {ss : List IV} (hr : fn.results = rs.toArray) (hl : Nat.beq rs.length 1 = false) (h : ResVs C y rs ss) : RetOk C F nt fn (IV.tup ss) y := fun μ ρ a w hi => by
  obtain ⟨vs, h1, h2⟩ := h.run hi
  refine ⟨.tuple vs.toArray, μ, ?_, ⟨vs, rfl, h2⟩, hi.le, hi.new, hi.agr⟩
  rw [results_run hr h1]
  have h3 : vs.length = rs.length := by
    have h4 := h2.length
    have : ∀ {rs : List ResultVar} {ss : List IV}, ResVs C y rs ss → rs.length = ss.length := by
      intro rs ss h
      induction h with
      | nil => rfl
      | cons _ _ ih => simp [ih]
    rw [h4, this h]
  rw [dif_neg]
  have := Nat.ne_of_beq_eq_false hl
  simpa [h3] using this
end
end Go.Proofs.Ytjgmbgfcffnanac
