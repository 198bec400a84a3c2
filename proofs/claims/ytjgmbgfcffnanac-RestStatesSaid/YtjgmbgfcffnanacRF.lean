/- A range over a function, in the logic. No program. -/
import Derived.Test.YtjgmbgfcffnanacLB
import Derived.RangeFuncFrom
import Derived.RangeFuncLeaves
namespace Go.Proofs.Ytjgmbgfcffnanac
open Go.RowKit

/- no maps among what is owned -/
def plainE : List Ent → Bool
  | [] => true
  | (_, .obj _) :: _ => false
  | (_, .blk _ _) :: H => plainE H
  | (_, .row _ _ _ _) :: H => plainE H
  | (_, .nest _ _ _ _ _) :: H => plainE H
theorem plainE_at : ∀ {H : List Ent}, plainE H = true → ∀ e ∈ H, ∀ O, e.2 ≠ .obj O
  | (i, .blk t cs) :: H, h, e, he, O => by
    rcases List.mem_cons.1 he with rfl | he
    · simp
    · exact plainE_at (by simpa only [plainE] using h) e he O
  | (i, .row t k enc xs) :: H, h, e, he, O => by
    rcases List.mem_cons.1 he with rfl | he
    · simp
    · exact plainE_at (by simpa only [plainE] using h) e he O
  | (i, .obj O') :: H, h, e, he, O => by simp [plainE] at h
  | (i, .nest t et k enc xs) :: H, h, e, he, O => by
    rcases List.mem_cons.1 he with rfl | he
    · simp
    · exact plainE_at (by simpa only [plainE] using h) e he O
theorem EntOk.cells {ρ : Nms} {μ : Mem} {w : World} {e : Ent} (h : EntOk ρ μ w e) (hn : ∀ O, e.2 ≠ .obj O) {g : Nat} (hg : eb ρ e g) : ∃ us t fz, w.heap[g]? = some (.cells us t fz) := by
  obtain ⟨i, o⟩ := e
  cases o with
  | blk t cs =>
    obtain ⟨g', us, h1, h2, _, h4, _⟩ := h
    rw [eb_one rfl] at hg
    simp only [h1, Option.bind_some, blk, Option.some.injEq] at hg
    subst hg
    exact ⟨_, _, _, h2⟩
  | row t k enc xs =>
    obtain ⟨v, us, h1, h2, _, _, h4, _⟩ := h
    rw [eb_one rfl] at hg
    simp only [h1, Option.bind_some] at hg
    rcases h2.2 with ⟨rfl, _⟩ | ⟨g', cap, cur, rfl, _, hh, _⟩
    · simp [blk] at hg
    · simp only [blk, Option.some.injEq] at hg
      subst hg
      exact ⟨_, _, _, hh⟩
  | obj O => exact absurd rfl (hn O)
  | nest t et k enc xss =>
    obtain ⟨_, _, ⟨v, us, h1, h2, _, h4⟩, _⟩ := h
    obtain ⟨j, hj, hg⟩ := hg
    cases j with
    | zero =>
      simp only [Nat.add_zero, h1, Option.bind_some] at hg
      rcases h2.2 with ⟨rfl, _⟩ | ⟨g', cap, cur, rfl, _, hh, _⟩
      · simp [blk] at hg
      · simp only [blk, Option.some.injEq] at hg
        subst hg
        exact ⟨_, _, _, hh⟩
    | succ j =>
      have hj : j < xss.length := by simpa [HObj.span] using hj
      obtain ⟨u, _, h6, us', h7, _⟩ := h4 j _ (List.getElem?_eq_getElem hj)
      rw [show i + (j + 1) = i + 1 + j by omega] at hg
      simp only [h6, Option.bind_some] at hg
      rcases h7.2 with ⟨rfl, _⟩ | ⟨g', cap, cur, rfl, _, hh, _⟩
      · simp [blk] at hg
      · simp only [blk, Option.some.injEq] at hg
        subst hg
        exact ⟨_, _, _, hh⟩
section
variable {F : Fx} {nt : Nat} {x y : St} {μ μ' : Mem} {ρ ρ' : Nms} {a a' : Act} {w w' : World}
/- a world that differs in what is no cells -/
theorem Inv.grown (h : Inv F nt x μ ρ a w) (hp : plainE x.H = true) {row : Option Nat} (hg : w.grownBy w' row) (hr : ∀ r, row = some r → F.w0.heap.size ≤ r ∧ ∃ o : Obj, w.heap[r]? = some o ∧ o.isCells = false) : Inv F nt x μ ρ a w' := by
  have same : ∀ (b : Nat) us t fz, w.heap[b]? = some (.cells us t fz) → w'.heap[b]? = w.heap[b]? := fun b us t fz hb => hg.block b (Array.getElem?_eq_some_iff.1 hb).1 fun e => by
    obtain ⟨_, o, ho, hc⟩ := hr b e.symm
    rw [hb] at ho
    injection ho with ho
    subst ho
    cases hc
  refine ⟨h.size, h.defers, h.env, fun b cs hb => ?_, h.heap.keep (Nms.le.refl _) (Mem.le.refl _) fun e he g hge => ?_, h.nms, hg.os.trans h.os, hg.tape.trans h.tape, hg.output.trans h.output, Nat.le_trans h.hsize hg.size, fun k hk hG => ?_, h.le, h.new, h.own⟩
  · obtain ⟨t, fz, hh⟩ := h.agr b cs hb
    exact ⟨t, fz, (same b _ _ _ hh).trans hh⟩
  · obtain ⟨us, t, fz, hh⟩ := (h.heap.1 e he).cells (plainE_at hp e he) hge
    exact ⟨same g _ _ _ hh, ((h.heap.1 e he).lt hge).2⟩
  · refine (hg.block k (Nat.lt_of_lt_of_le hk h.hsize) fun e => ?_).trans (h.block k hk hG)
    have := (hr k e.symm).1
    omega
/- from here on -/
def Fx.from (F : Fx) (H : List Ent) (ρ : Nms) (μ : Mem) (w : World) (D : List Deferred) (ro : Option Nat) : Fx := ⟨w, μ, fun g => ∃ e ∈ H, eb ρ e g, D, ro⟩
theorem Inv.here (h : Inv F nt x μ ρ a w) {D : List Deferred} {ro : Option Nat} {a1 : Act} {σ : Env} (h1 : a1.tmps.size = nt) (h2 : a1.defers = D) (h3 : EnvOk ρ μ σ a1.tmps) : Inv (F.from x.H ρ μ w D ro) nt ⟨σ, x.H, x.fr⟩ μ ρ a1 w :=
  ⟨h1, h2, h3, h.agr, h.heap, h.nms, rfl, rfl, rfl, Nat.le_refl _, fun _ _ _ => rfl, Mem.le.refl _, fun _ hb => .inl hb, fun e he g hg => .inl ⟨e, he, hg⟩⟩
theorem Inv.back (h : Inv F nt x μ ρ a w) {D : List Deferred} {ro : Option Nat} (h2 : Inv (F.from x.H ρ μ w D ro) nt y μ' ρ' a' w') {a1 : Act} {σ : Env} (h3 : a1.tmps.size = nt) (h4 : a1.defers = F.D) (h5 : EnvOk ρ' μ' σ a1.tmps) : Inv F nt ⟨σ, y.H, y.fr⟩ μ' ρ' a1 w' := by
  have hG : ∀ g, (∃ e ∈ x.H, eb ρ e g) → F.G g ∨ F.w0.heap.size ≤ g := fun g ⟨e, he, hg⟩ => h.own e he g hg
  refine ⟨h3, h4, h5, h2.agr, h2.heap, h2.nms, h2.os.trans h.os, h2.tape.trans h.tape, h2.output.trans h.output, Nat.le_trans h.hsize h2.hsize, fun k hk hk2 => ?_, h.le.trans h2.le, fun b hb => ?_, fun e he g hg => ?_⟩
  · refine (h2.block k (Nat.lt_of_lt_of_le hk h.hsize) fun hgk => ?_).trans (h.block k hk hk2)
    rcases hG k hgk with h6 | h6
    · exact hk2 h6
    · omega
  · rcases h2.new b hb with h6 | h6 | h6
    · exact h.new b h6
    · exact .inr (.inl (Nat.le_trans h.hsize h6))
    · exact .inr ((hG b h6).symm)
  · rcases h2.own e he g hg with h6 | h6
    · exact hG g h6
    · exact .inr (Nat.le_trans h.hsize h6)
theorem keeps_of (h : Inv F nt x μ ρ a w) (hp : plainE x.H = true) {D : List Deferred} {ro : Option Nat} (h2 : Inv (F.from x.H ρ μ w D ro) nt y μ' ρ' a' w') : KeepsOthers w w' := ⟨h2.hsize, fun k o hk ho => by
  refine (h2.block k (Array.getElem?_eq_some_iff.1 hk).1 fun ⟨e, he, hg⟩ => ?_).trans hk
  obtain ⟨us, t, fz, hh⟩ := (h.heap.1 e he).cells (plainE_at hp e he) hg
  rw [hk] at hh
  injection hh with hh
  subst hh
  cases ho⟩
end

/- a function whose body holds such a loop -/
def FnRaw (C : Cfg) (F : Fx) (fn : Func) (s : IV) : Exit → Act → World → Prop := bodyPostM Fence.wide 9 C.P fn fun e w' => ∃ v μ', e = .returned v ∧ s.p μ' v ∧ Stp F.μ0 F.w0 μ' w'
def Raw (C : Cfg) (F : Fx) (nt : Nat) (c : Code) (Q : Exit → Act → World → Prop) (x : St) : Prop := ∀ μ ρ a w, Inv F nt x μ ρ a w → c.wpIn Fence.wide 9 C.P Q a w
section
variable {C : Cfg} {F : Fx} {nt : Nat} {fn : Func} {s : IV} {x y : St}
theorem raw_ret (hD : F.D = []) (hG : ∀ g, ¬ F.G g) {e : Exit} {μ : Mem} {ρ : Nms} {a : Act} {w : World} (hq : FnQ C F nt fn s e y) (hy : Inv F nt y μ ρ a w) : FnRaw C F fn s e a w := by
  have key : RetOk C F nt fn s y → LeavesInM Fence.wide 9 C.P fn a.tmps (fun e w' => ∃ v μ', e = .returned v ∧ s.p μ' v ∧ Stp F.μ0 F.w0 μ' w') a.defers .returning w := fun hr => by
    rw [hy.defers, hD]
    obtain ⟨v, ν, h1, h2, h3, h4, h5⟩ := hr μ ρ a w hy
    exact ⟨v, h1, v, ν, rfl, h2, ⟨hy.os, hy.tape, hy.output, hy.hsize, fun k hk => hy.block k hk (hG k)⟩, h3, fun b hb => (h4 b hb).imp id (fun hx => hx.elim id (fun hf => (hG b hf).elim)), h5⟩
  cases e with
  | normal => exact key hq
  | ret => exact key hq
  | _ => exact hq.elim
theorem Raw.seq {c1 c2 : Code} (hD : F.D = []) (hro : F.ro = none) (hG : ∀ g, ¬ F.G g) (h : WP C F nt c1 (XThen (Raw C F nt c2 (FnRaw C F fn s)) (FnQ C F nt fn s)) x) : Raw C F nt (.seq c1 c2) (FnRaw C F fn s) x := fun μ ρ a w hi => by
  refine wpIn_seq (wpIn_mono (fen_wide hro ▸ h μ ρ a w hi) ?_)
  rintro e a' w' ⟨y, μ', ρ', hq, hy⟩
  cases e with
  | normal => exact hq _ _ _ _ hy
  | _ => exact raw_ret (y := y) hD hG hq hy
theorem Raw.seq2 {c1 c2 c3 : Code} (hD : F.D = []) (hro : F.ro = none) (hG : ∀ g, ¬ F.G g) (h : WP C F nt c1 (XThen (Raw C F nt c2 (Exit.then (c3.wpIn Fence.wide 9 C.P (FnRaw C F fn s)) (FnRaw C F fn s))) (FnQ C F nt fn s)) x) : Raw C F nt (.seq (.seq c1 c2) c3) (FnRaw C F fn s) x := fun μ ρ a w hi => by
  refine wpIn_seq (wpIn_seq (wpIn_mono (fen_wide hro ▸ h μ ρ a w hi) ?_))
  rintro e a' w' ⟨y, μ', ρ', hq, hy⟩
  cases e with
  | normal => exact hq _ _ _ _ hy
  | ret => exact raw_ret (y := y) (e := .ret) hD hG hq hy
  | _ => exact (hq : False).elim
theorem Fn.of_raw {f : FuncId} {c : Code} {args : List IV} (nt : Nat) (hf : C.P.funcs[f]? = some fn) (hb : fn.body = some c) (hname : (fn.name == "runtime.NumGoroutine") = false) (hnt : fn.ntmps = nt) (hn : Nat.ble args.length nt = true)
    (h : ∀ F : Fx, F.D = [] → F.ro = none → (∀ g, ¬ F.G g) → Raw C F nt c (FnRaw C F fn s) ⟨env0 0 args, [], 0⟩) : Fn C f args s := by
  refine ⟨⟨fn, hf, by rw [hb]; rfl, hname⟩, fun μ w vs hvs ha => ?_⟩
  have hlen := hvs.length
  refine callsIn_wide.1 (callsIn_of_wp_marks (n := 9) hf hb trivial ?_)
  have hle := Nat.le_of_ble_eq_true hn
  refine h ⟨w, μ, fun _ => False, [], none⟩ rfl rfl (fun _ h => h) μ (fun _ => none) _ w ?_
  refine ⟨by simp; omega, rfl, fun t s hs => ?_, ha, ⟨(fun e he => by cases he), (fun e he => by cases he)⟩, fun i hi => absurd rfl hi, rfl, rfl, rfl, Nat.le_refl _, fun _ _ _ => rfl, Mem.le.refl _, fun b hb => .inl hb, (fun e he => by cases he)⟩
  obtain ⟨j, s', h1, h2, rfl⟩ := env0_at hs
  rw [Nat.zero_add] at h1
  subst h1
  obtain ⟨v, h3, h4⟩ := hvs.get h2
  have hj : t < vs.length := (List.getElem?_eq_some_iff.1 h3).1
  refine R_im.2 ?_
  have : (vs.toArray ++ Array.replicate (fn.ntmps - vs.toArray.size) undef).getD t undef = v := by
    rw [Array.getD_eq_getD_getElem?, Array.getElem?_append_left (by simpa using hj)]
    simp [h3]
  rw [this]; exact h4
end

/- slots that are just what they are -/
def isEnv (ts : Array Value) : Env → Env
  | [] => []
  | (t, s) :: σ => (t, .is (ts.getD t undef) s) :: isEnv ts σ
theorem isEnv_at {ts : Array Value} : ∀ {σ : Env} {t : Nat} {s : SV}, lk (isEnv ts σ) t = some s → ∃ s0, lk σ t = some s0 ∧ s = .is (ts.getD t undef) s0
  | [], t, s, h => by cases h
  | (d, s0) :: σ, t, s, h => by
    unfold isEnv lk at h
    unfold lk
    cases hb : Nat.beq d t with
    | true =>
      rw [hb] at h
      have := Nat.eq_of_beq_eq_true hb
      subst this
      injection h with h
      exact ⟨s0, rfl, h.symm⟩
    | false => rw [hb] at h; exact isEnv_at h
theorem isEnv_of {ts : Array Value} : ∀ {σ : Env} {t : Nat} {s : SV}, lk σ t = some s → lk (isEnv ts σ) t = some (.is (ts.getD t undef) s)
  | [], t, s, h => by cases h
  | (d, s0) :: σ, t, s, h => by
    unfold lk at h
    unfold isEnv lk
    cases hb : Nat.beq d t with
    | true =>
      rw [hb] at h
      have := Nat.eq_of_beq_eq_true hb
      subst this
      injection h with h
      rw [h]
    | false => rw [hb] at h; exact isEnv_of h
theorem EnvOk.unis {ρ : Nms} {μ : Mem} {σ : Env} {ts ts' : Array Value} (h : EnvOk ρ μ (isEnv ts σ) ts') : EnvOk ρ μ σ ts := fun t s hs => by
  have := h t _ (isEnv_of hs)
  unfold SV.R at this
  rw [this.1] at this
  exact this.2
/- the loop -/
def Iter (C : Cfg) (gf : FuncId) (caps : List IV) {α : Type} (encs : α → Array Value) (N : Nat) (S Sp : List α → Prop) : Prop :=
  (∃ fn, C.P.funcs[gf]? = some fn ∧ fn.body.isNone = false ∧ (fn.name == "runtime.NumGoroutine") = false) ∧
  ∀ μ lb w, IVs μ caps lb → Agr μ w → SeqStopsK Fence.wide 8 C.P gf lb.toArray encs (fun A B => Agr μ A → Agr μ B) S Sp N w
theorem Agr.grown {μ : Mem} {w w' : World} {row : Option Nat} (h : Agr μ w) (hg : w.grownBy w' row) (hr : ∀ r, row = some r → ∃ o : Obj, w.heap[r]? = some o ∧ o.isCells = false) : Agr μ w' := fun b cs hb => by
  obtain ⟨t, fz, hh⟩ := h b cs hb
  refine ⟨t, fz, (hg.block b (Array.getElem?_eq_some_iff.1 hh).1 fun e => ?_).trans hh⟩
  obtain ⟨o, ho, hc⟩ := hr b e.symm
  rw [hh] at ho
  injection ho with ho
  subst ho
  cases hc
theorem EnvOk.set {ρ : Nms} {μ : Mem} {σ : Env} {ts : Array Value} {p : Nat} {v : Value} (h : EnvOk ρ μ σ ts) (hp : p < ts.size) (hn : lk σ p = none) : EnvOk ρ μ σ (ts.setIfInBounds p v) := fun t s hs => by
  rw [getD_set _ _ _ _ _ hp, if_neg (fun e => by subst e; rw [hn] at hs; cases hs)]
  exact h t s hs
theorem EnvOk.is {ρ : Nms} {μ : Mem} {σ : Env} {ts : Array Value} (h : EnvOk ρ μ σ ts) : EnvOk ρ μ (isEnv ts σ) ts := fun t s hs => by
  obtain ⟨s0, h1, rfl⟩ := isEnv_at hs
  unfold SV.R
  exact ⟨rfl, h t s0 h1⟩
theorem isEnv_none {ts : Array Value} : ∀ {σ : Env} {t : Nat}, lk σ t = none → lk (isEnv ts σ) t = none
  | [], t, h => rfl
  | (d, s0) :: σ, t, h => by
    unfold lk at h
    unfold isEnv lk
    cases hb : Nat.beq d t with
    | true => rw [hb] at h; cases h
    | false => rw [hb] at h; exact isEnv_none h
theorem EnvOk.cons {ρ : Nms} {μ : Mem} {σ : Env} {ts : Array Value} {p : Nat} {v : Value} {s : SV} (h : EnvOk ρ μ σ ts) (hp : p < ts.size) (hn : lk σ p = none) (hv : SV.R ρ μ s v) : EnvOk ρ μ ((p, s) :: σ) (ts.setIfInBounds p v) := fun t s' hs => by
  unfold lk at hs
  rw [getD_set _ _ _ _ _ hp]
  cases hb : Nat.beq p t with
  | true =>
    rw [hb] at hs
    rw [if_pos (Nat.eq_of_beq_eq_true hb)]
    injection hs with hs
    subst hs
    exact hv
  | false =>
    rw [hb] at hs
    rw [if_neg (Nat.ne_of_beq_eq_false hb)]
    exact h t s' hs
theorem asg1 {P : Program} {l n id d p : Nat} {ty : TypeId} {pos : String} {af : Array Edge} {Q : Exit → Act → World → Prop} {a : Act} {W : World} (h : Q .normal (a.put (some d) (a.tmps.getD p undef)) W) :
    (Code.region id #[⟨some d, .assign (.tmp p), ty, pos, af, none⟩] false).wpIn (Fence.wide.inRound l) n P Q a W := by
  refine wpIn_region_lit (l := [_]) ?_
  show wpListIn _ _ _ _ _ [_] _ _
  unfold wpListIn
  rw [if_pos (show Region.wanted _ _ = true from rfl)]
  exact ⟨fun _ _ => trivial, h⟩
def RoundQ {ι : Type} (F : Fx) (nt : Nat) (σ σX : Env) (I : ι → List Ent × Nat) (R : ι → Prop) (X : ι → List Ent × Nat) (RX : ι → Prop) : Exit → St → Prop
  | .normal, y => ∃ j, R j ∧ Shift F nt y ⟨σ, (I j).1, (I j).2⟩
  | .ret, y => ∃ j, RX j ∧ Shift F nt y ⟨σX, (X j).1, (X j).2⟩
  | _, _ => False

section
variable {C : Cfg} {F : Fx} {nt : Nat} {fn : Func} {s : IV} {x : St} {σ : Env}
theorem leaves_mark {D : Nat} {μ μ1 : Mem} {ρ ρ1 : Nms} {y z : St} {a a1 : Act} {w w1 : World} (hD : F.D = []) (hG : ∀ g, ¬ F.G g) (hi : Inv F nt y μ ρ a w) (hpy : plainE y.H = true) (hsz : F.w0.heap.size ≤ D) (hDw : w.heap[D]? = some (.deferred (some [])))
    (h1 : Inv (F.from y.H ρ μ w [{ target := .collected D, args := #[] }] none) nt z μ1 ρ1 a1 w1) (hpz : plainE z.H = true) (hr : ∀ F3 : Fx, RetOk C F3 nt fn s z) :
    LeavesInM Fence.wide 9 C.P fn a1.tmps (fun e w' => ∃ v μ', e = .returned v ∧ s.p μ' v ∧ Stp F.μ0 F.w0 μ' w') a1.defers .returning w1 := by
  have hDlt : D < w.heap.size := (Array.getElem?_eq_some_iff.1 hDw).1
  have hno : ¬ ∃ e ∈ y.H, eb ρ e D := fun ⟨e, he, hg⟩ => by
    obtain ⟨us, t, fz, hh⟩ := (hi.heap.1 e he).cells (plainE_at hpy e he) hg
    rw [hDw] at hh
    cases hh
  have hD1 : w1.heap[D]? = some (.deferred (some [])) := (h1.block D hDlt hno).trans hDw
  have hb := hi.back h1 (a1 := { a1 with defers := F.D }) h1.size rfl h1.env
  have hg2 := hb.grown hpz (w' := w1.putObj D (.deferred none)) (grownBy_putObj' w1 D (.deferred none)) (fun r e => by cases e; exact ⟨hsz, _, hD1, rfl⟩)
  have hds : a1.defers = [{ target := .collected D, args := #[] }] := h1.defers
  rw [hds]
  obtain ⟨v, ν, k1, k2, k3, k4, k5⟩ := hr F μ1 ρ1 _ _ hg2
  refine ⟨by simp, .inl ⟨D, _, rfl, run_takeDeferred hD1, v, k1, v, ν, rfl, k2, ⟨hg2.os, hg2.tape, hg2.output, hg2.hsize, fun k hk => hg2.block k hk (hG k)⟩, k3, fun b hb => (k4 b hb).imp id (fun hx => hx.elim id (fun hf => (hG b hf).elim)), k5⟩⟩
theorem Raw.range2 {α ι : Type} {id g p1 p2 d1 d2 i1 i2 N : Nat} {t1 t2 : TypeId} {q1 q2 : String} {e1 e2 : Array Edge} {body rest : Code} {gf : FuncId} {caps : List IV} {v1 v2 : α → Value} {S Sp : List α → Prop}
    (I : ι → List Ent × Nat) (R : List α → ι → Prop) (X : ι → List Ent × Nat) (RX : List α → ι → Prop) (σX : Env) (hI : ∀ i, plainE (I i).1 = true) (hX : ∀ i, plainE (X i).1 = true) (i0 : ι) (h0 : R [] i0)
    (hD : F.D = []) (hro : F.ro = none) (hG : ∀ g, ¬ F.G g) (hx : Shift F nt x ⟨σ, (I i0).1, (I i0).2⟩)
    (hg : lk σ g = some (.im (IV.fn gf caps))) (it : Iter C gf caps (fun x => #[v1 x, v2 x]) N S Sp)
    (hp1 : lk σ p1 = none) (hp2 : lk σ p2 = none) (hd1 : lk σ d1 = none) (hd2 : lk σ d2 = none)
    (hpb : (Nat.blt p1 nt && Nat.blt p2 nt && Nat.blt d1 nt && Nat.blt d2 nt && !Nat.beq p1 p2 && !Nat.beq d1 p2 && !Nat.beq d1 d2) = true)
    (hbody : ∀ F' : Fx, F'.D = [] → ∀ ts pre x i, R pre i → pre.length < N → WP C F' nt body (RoundQ F' nt (isEnv ts σ) (isEnv ts σX) I (R (pre ++ [x])) X (RX (pre ++ [x]))) ⟨(d2, .im (IV.val (v2 x))) :: (d1, .im (IV.val (v1 x))) :: isEnv ts σ, (I i).1, (I i).2⟩)
    (hdone : ∀ F2 : Fx, ∀ xs i, S xs → R xs i → WP C F2 nt rest (fun e y => e = .ret ∧ plainE y.H = true ∧ ∀ F3 : Fx, RetOk C F3 nt fn s y) ⟨σ, (I i).1, (I i).2⟩)
    (hstop : ∀ pre i, Sp pre → RX pre i → ∀ F3 : Fx, RetOk C F3 nt fn s ⟨σX, (X i).1, (X i).2⟩) :
    Raw C F nt (.block id (.rangeFunc (.tmp g) #[p1, p2] (.seq (.region i1 #[⟨some d1, .assign (.tmp p1), t1, q1, e1, none⟩] false) (.region i2 #[⟨some d2, .assign (.tmp p2), t2, q2, e2, none⟩] false)) body)) (Exit.then (rest.wpIn Fence.wide 9 C.P (FnRaw C F fn s)) (FnRaw C F fn s)) x := by
  intro μ0 ρ0 a w hi0
  obtain ⟨μ, ρ, hi⟩ := hx _ _ _ _ hi0
  clear hi0 hx
  simp only [Bool.and_eq_true, Bool.not_eq_true'] at hpb
  obtain ⟨⟨⟨⟨⟨⟨b1, b2⟩, b3⟩, b4⟩, n1⟩, n2⟩, n3⟩ := hpb
  have b1 : p1 < nt := by simpa using b1
  have b2 : p2 < nt := by simpa using b2
  have b3 : d1 < nt := by simpa using b3
  have b4 : d2 < nt := by simpa using b4
  have n1 := Nat.ne_of_beq_eq_false n1
  have n2 := Nat.ne_of_beq_eq_false n2
  have n3' := n3
  have n3 := Nat.ne_of_beq_eq_false n3
  obtain ⟨lb, hlb, hcaps⟩ := R_im.1 (hi.env g _ hg)
  obtain ⟨⟨gn, k1, k2, k3⟩, hit⟩ := it
  have hsize := hi.size
  refine wpIn_block ?_
  refine wpIn_rangeFunc_ownF (F := Fence.wide) (n := 9) (w0 := w) rfl (by omega) (gf := gf) (lb := lb.toArray) hlb trivial (fun args w => run_callFunc k1 k2 k3 w) (hit μ lb w hcaps hi.agr)
    (fun h1 h2 h3 => h2 (h1 h3)) (fun W l o o' hl hW ho _ h3 => h3.grown (grownBy_putObj' W l o') (fun r e => by cases e; exact ⟨o, hW, ho⟩)) (Below.refl _ _) (fun _ => rfl)
    (fun pre W => ∃ i μ' ρ', R pre i ∧ Mem.le μ μ' ∧ Inv F nt ⟨σ, (I i).1, (I i).2⟩ μ' ρ' a W)
    (fun c pre W => c = .ret ∧ ∃ i μ' ρ', RX pre i ∧ Inv F nt ⟨σX, (X i).1, (X i).2⟩ μ' ρ' a W)
    (fun pre A B row ⟨i, μ', ρ', h1, h2, h3⟩ hgr hr => ⟨i, μ', ρ', h1, h2, h3.grown (hI i) hgr (fun r e => ⟨Nat.le_trans hi.hsize (hr r e).1, (hr r e).2⟩)⟩)
    (fun c pre A B row ⟨hc, i, μ', ρ', h1, h3⟩ hgr hr => ⟨hc, i, μ', ρ', h1, h3.grown (hX i) hgr (fun r e => ⟨Nat.le_trans hi.hsize (hr r e).1, (hr r e).2⟩)⟩)
    ⟨i0, μ, ρ, h0, Mem.le.refl _, hi⟩
    (fun x => { tmps := (((a.tmps.setIfInBounds p1 (v1 x)).setIfInBounds p2 (v2 x)).setIfInBounds d1 (v1 x)).setIfInBounds d2 (v2 x), defers := [] }) ?_ ?_ ?_ ?_
  · -- the loop's left sides
    intro l x W K hK
    refine wpIn_seq (asg1 ?_)
    refine asg1 ?_
    have e1 : (((a.tmps.setIfInBounds p1 (v1 x)).setIfInBounds p2 (v2 x)).getD p1 undef) = v1 x := by
      rw [getD_set _ _ _ _ _ (by simp; omega), if_neg (fun e => n1 e.symm), getD_set _ _ _ _ _ (by omega), if_pos rfl]
    have e2 : ((((a.tmps.setIfInBounds p1 (v1 x)).setIfInBounds p2 (v2 x)).setIfInBounds d1 (v1 x)).getD p2 undef) = v2 x := by
      rw [getD_set _ _ _ _ _ (by simp; omega), if_neg n2, getD_set _ _ _ _ _ (by simp; omega), if_pos rfl]
    show K _ _
    simp only [Act.put]
    have e0 : (((#[p1, p2].zip #[v1 x, v2 x]).foldl (fun t (x : Tmp × Value) => t.setIfInBounds x.1 x.2) a.tmps)) = (a.tmps.setIfInBounds p1 (v1 x)).setIfInBounds p2 (v2 x) := by simp
    have e0' : (((#[p1, p2].zip #[v1 x, v2 x]).foldl (fun t (p, v) => t.setIfInBounds p v) a.tmps)) = (a.tmps.setIfInBounds p1 (v1 x)).setIfInBounds p2 (v2 x) := e0
    rw [e0', e1, e2]
    exact hK
  · -- one round
    rintro l pre x W ⟨i, μ', ρ', h1, h2, h3⟩ hlen
    have henv : EnvOk ρ' μ' ((d2, .im (IV.val (v2 x))) :: (d1, .im (IV.val (v1 x))) :: isEnv a.tmps σ) ((((a.tmps.setIfInBounds p1 (v1 x)).setIfInBounds p2 (v2 x)).setIfInBounds d1 (v1 x)).setIfInBounds d2 (v2 x)) := by
      have h4 := h3.env.is
      refine EnvOk.cons (EnvOk.cons ((h4.set (by omega) (isEnv_none hp1)).set (by simp; omega) (isEnv_none hp2)) (by simp; omega) (isEnv_none hd1) (R_im.2 rfl)) (by simp; omega) ?_ (R_im.2 rfl)
      unfold lk
      rw [n3']
      exact isEnv_none hd2
    have h5 := h3.here (D := []) (ro := some l) (a1 := { tmps := (((a.tmps.setIfInBounds p1 (v1 x)).setIfInBounds p2 (v2 x)).setIfInBounds d1 (v1 x)).setIfInBounds d2 (v2 x), defers := [] }) (by simp; exact hsize) rfl henv
    have h6 := hbody _ rfl a.tmps pre x i h1 hlen μ' ρ' _ W h5
    refine wpIn_mono (fen_n h6) ?_
    rintro e a' W' ⟨y, μ'', ρ'', hq, hy⟩
    cases e with
    | normal =>
      obtain ⟨j, hj, hs⟩ := hq
      obtain ⟨μ3, ρ3, h7⟩ := hs _ _ _ _ hy
      have hle : Mem.le μ' μ3 := h7.le
      exact ⟨keeps_of h3 (hI i) h7, fun hA => fun b c hb => h7.agr b c (hle _ _ (h2 _ _ hb)), j, μ3, ρ3, hj, h2.trans hle, h3.back h7 hsize hi.defers h7.env.unis⟩
    | ret =>
      obtain ⟨j, hj, hs⟩ := hq
      obtain ⟨μ3, ρ3, h7⟩ := hs _ _ _ _ hy
      exact ⟨keeps_of h3 (hI i) h7, rfl, j, μ3, ρ3, hj, h3.back h7 hsize hi.defers h7.env.unis⟩
    | _ => exact hq.elim
  · -- all have come
    rintro D xs W hDs hS ⟨i, μ', ρ', h1, h2, h3⟩ hDW
    have h5 := h3.here (D := [{ target := .collected D, args := #[] }]) (ro := none) (a1 := { a with defers := { target := .collected D, args := #[] } :: a.defers }) (σ := σ) hsize (by show _ :: a.defers = _; rw [hi.defers, hD]) h3.env
    have h6 := hdone _ xs i hS h1 μ' ρ' _ W h5
    refine wpIn_mono h6 ?_
    rintro e a' W' ⟨y, μ'', ρ'', ⟨rfl, hpz, hr⟩, hy⟩
    exact leaves_mark hD hG h3 (hI i) (Nat.le_trans hi.hsize hDs) hDW hy hpz hr
  · -- the body has left
    rintro D c pre W hDs hSp ⟨rfl, i, μ', ρ', h1, h3⟩ hDW
    have h5 := h3.here (D := [{ target := .collected D, args := #[] }]) (ro := none) (a1 := { a with defers := { target := .collected D, args := #[] } :: a.defers }) (σ := σX) hsize (by show _ :: a.defers = _; rw [hi.defers, hD]) h3.env
    exact wpIn_ret (leaves_mark hD hG h3 (hX i) (Nat.le_trans hi.hsize hDs) hDW h5 (hX i) (hstop pre i hSp h1))
end
end Go.Proofs.Ytjgmbgfcffnanac
