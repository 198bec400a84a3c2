/- Functions that turn what the caller owns. No program. -/
import Derived.Test.YtjgmbgfcffnanacLog11
namespace Go.Proofs.Ytjgmbgfcffnanac
open Go.RowKit

mutual
def SV.rn (f : Nat → Nat) : SV → SV
  | .im s => .im s
  | .off i o => .off (f i) o
  | .row i n => .row (f i) n
  | .agg l => .agg (SV.rns f l)
  | .cnd b s => .cnd b (SV.rn f s)
  | .fn g l => .fn g (SV.rns f l)
  | .is u s => .is u (SV.rn f s)
def SV.rns (f : Nat → Nat) : List SV → List SV
  | [] => []
  | s :: l => SV.rn f s :: SV.rns f l
end
mutual
def SV.nm (p : Nat → Bool) : SV → Bool
  | .im _ => true
  | .off i _ => p i
  | .row i _ => p i
  | .agg l => SV.nms p l
  | .cnd _ s => SV.nm p s
  | .fn _ l => SV.nms p l
  | .is _ s => SV.nm p s
def SV.nms (p : Nat → Bool) : List SV → Bool
  | [] => true
  | s :: l => SV.nm p s && SV.nms p l
end
mutual
theorem SV.R_rn {f : Nat → Nat} {p : Nat → Bool} {ρ ρ' : Nms} {μ : Mem} (h : ∀ i, p i = true → ρ' (f i) = ρ i) : ∀ {s : SV} {v : Value}, SV.nm p s = true → (SV.R ρ' μ (SV.rn f s) v ↔ SV.R ρ μ s v)
  | .im _, v, _ => by simp only [SV.rn, SV.R]
  | .off i o, v, k => by simp only [SV.rn, SV.R]; rw [h i (by simpa [SV.nm] using k)]
  | .row i n, v, k => by simp only [SV.rn, SV.R]; rw [h i (by simpa [SV.nm] using k)]
  | .agg l, v, k => by
    simp only [SV.rn, SV.R]
    exact ⟨fun ⟨vs, e, a, o⟩ => ⟨vs, e, (SV.Rs_rn h (by simpa [SV.nm] using k)).1 a, o⟩, fun ⟨vs, e, a, o⟩ => ⟨vs, e, (SV.Rs_rn h (by simpa [SV.nm] using k)).2 a, o⟩⟩
  | .cnd b s, v, k => by
    simp only [SV.rn, SV.R]
    have := SV.R_rn h (s := s) (v := v) (μ := μ) (by simpa [SV.nm] using k)
    exact ⟨fun ⟨a, b⟩ => ⟨fun e => this.1 (a e), b⟩, fun ⟨a, b⟩ => ⟨fun e => this.2 (a e), b⟩⟩
  | .fn g l, v, k => by
    simp only [SV.rn, SV.R]
    exact ⟨fun ⟨vs, e, a⟩ => ⟨vs, e, (SV.Rs_rn h (by simpa [SV.nm] using k)).1 a⟩, fun ⟨vs, e, a⟩ => ⟨vs, e, (SV.Rs_rn h (by simpa [SV.nm] using k)).2 a⟩⟩
  | .is u s, v, k => by
    simp only [SV.rn, SV.R]
    have := SV.R_rn h (s := s) (v := v) (μ := μ) (by simpa [SV.nm] using k)
    exact ⟨fun ⟨a, b⟩ => ⟨a, this.1 b⟩, fun ⟨a, b⟩ => ⟨a, this.2 b⟩⟩
theorem SV.Rs_rn {f : Nat → Nat} {p : Nat → Bool} {ρ ρ' : Nms} {μ : Mem} (h : ∀ i, p i = true → ρ' (f i) = ρ i) : ∀ {l : List SV} {vs : List Value}, SV.nms p l = true → (SV.Rs ρ' μ (SV.rns f l) vs ↔ SV.Rs ρ μ l vs)
  | [], vs, _ => by simp only [SV.rns, SV.Rs]
  | s :: l, vs, k => by
    simp only [SV.nms, Bool.and_eq_true] at k
    simp only [SV.rns, SV.Rs]
    exact ⟨fun ⟨v, vs', e, a, b⟩ => ⟨v, vs', e, (SV.R_rn h k.1).1 a, (SV.Rs_rn h k.2).1 b⟩, fun ⟨v, vs', e, a, b⟩ => ⟨v, vs', e, (SV.R_rn h k.1).2 a, (SV.Rs_rn h k.2).2 b⟩⟩
end
mutual
theorem SV.rn_id : ∀ (s : SV), SV.rn (fun i => i) s = s
  | .im _ => rfl
  | .off _ _ => rfl
  | .row _ _ => rfl
  | .agg l => by simp only [SV.rn, SV.rns_id l]
  | .cnd _ s => by simp only [SV.rn, SV.rn_id s]
  | .fn _ l => by simp only [SV.rn, SV.rns_id l]
  | .is _ s => by simp only [SV.rn, SV.rn_id s]
theorem SV.rns_id : ∀ (l : List SV), SV.rns (fun i => i) l = l
  | [] => rfl
  | s :: l => by simp only [SV.rns, SV.rn_id s, SV.rns_id l]
end

def HObj.rn (f : Nat → Nat) : HObj → HObj
  | .blk t cs => .blk t (SV.rns f cs)
  | .row t k enc xs => .row t k enc xs
def HObj.nm (p : Nat → Bool) : HObj → Bool
  | .blk _ cs => SV.nms p cs
  | .row _ _ _ _ => true
theorem HObj.rn_id : ∀ (o : HObj), HObj.rn (fun i => i) o = o
  | .blk t cs => by simp only [HObj.rn, SV.rns_id]
  | .row _ _ _ _ => rfl
theorem EntOk.rn {f : Nat → Nat} {p : Nat → Bool} {ρ ρ' : Nms} {μ : Mem} {w : World} (h : ∀ i, p i = true → ρ' (f i) = ρ i) {i : Nat} {o : HObj} (hi : p i = true) (ho : o.nm p = true) : EntOk ρ' μ w (f i, o.rn f) ↔ EntOk ρ μ w (i, o) := by
  cases o with
  | blk t cs =>
    simp only [EntOk, HObj.rn, h i hi]
    simp only [HObj.nm] at ho
    exact ⟨fun ⟨g, us, a, b, c, d⟩ => ⟨g, us, a, b, (SV.Rs_rn h ho).1 c, d⟩, fun ⟨g, us, a, b, c, d⟩ => ⟨g, us, a, b, (SV.Rs_rn h ho).2 c, d⟩⟩
  | row t k enc xs => simp only [EntOk, HObj.rn, h i hi]
def ltB (n i : Nat) : Bool := Nat.blt i n
def pnB (pn : List Nat) (fr fr' i : Nat) : Bool := pn.any (Nat.beq i) || (Nat.ble fr i && Nat.blt i fr')
def hOk (p : Nat → Bool) : List Ent → Bool
  | [] => true
  | (i, o) :: H => p i && o.nm p && hOk p H
theorem hOk_at {p : Nat → Bool} : ∀ {H : List Ent}, hOk p H = true → ∀ e ∈ H, p e.1 = true ∧ e.2.nm p = true
  | (i, o) :: H, h, e, he => by
    simp only [hOk, Bool.and_eq_true] at h
    rcases List.mem_cons.1 he with rfl | he
    · exact h.1
    · exact hOk_at h.2 e he

/- the contract: the names below fr are the caller's; those of pn stay, the others go -/
structure FnE (C : Cfg) (f : FuncId) (fr : Nat) (args : List SV) (H : List Ent) (s : SV) (H' : List Ent) (fr' : Nat) (pn : List Nat) : Prop where
  fn : ∃ fn, C.P.funcs[f]? = some fn ∧ fn.body.isNone = false ∧ (fn.name == "runtime.NumGoroutine") = false
  argsOk : SV.nms (ltB fr) args = true
  hOk : hOk (ltB fr) H = true
  resOk : SV.nm (pnB pn fr fr') s = true
  hOk' : Go.Proofs.Ytjgmbgfcffnanac.hOk (pnB pn fr fr') H' = true
  pnOk : pn.all (ltB fr) = true
  frOk : Nat.ble fr fr' = true
  calls : ∀ ρ μ w vs, SV.Rs ρ μ args vs → Agr μ w → HeapOk ρ μ w H → (∀ i, ρ i ≠ none → i < fr) → Calls C.P f vs.toArray w fun e w' => ∃ v μ' ρ', e = .returned v ∧ SV.R ρ' μ' s v ∧ HeapOk ρ' μ' w' H' ∧ (∀ i ∈ pn, ρ' i = ρ i) ∧ EStp ρ H μ w ρ' H' μ' w'

def cfn (ns : List Nat) (fr0 i : Nat) : Nat := match ns[i]? with
  | some j => j
  | none => fr0 + (i - ns.length)
def hren (f : Nat → Nat) : List Ent → List Ent
  | [] => []
  | (i, o) :: H => (f i, o.rn f) :: hren f H
theorem hren_mem {f : Nat → Nat} : ∀ {H : List Ent} {e : Ent}, e ∈ hren f H → ∃ e0 ∈ H, e = (f e0.1, e0.2.rn f)
  | (i, o) :: H, e, h => by
    rcases List.mem_cons.1 h with rfl | h
    · exact ⟨(i, o), List.mem_cons_self, rfl⟩
    · obtain ⟨e0, h1, h2⟩ := hren_mem h
      exact ⟨e0, List.mem_cons_of_mem _ h1, h2⟩
def hdels : List Ent → List Nat → List Ent
  | H, [] => H
  | H, n :: ns => hdels (hdel H n) ns
theorem hdels_mem : ∀ {ns : List Nat} {H : List Ent} {e : Ent}, e ∈ hdels H ns → e ∈ H ∧ e.1 ∉ ns
  | [], H, e, h => ⟨h, by simp⟩
  | n :: ns, H, e, h => by
    obtain ⟨h1, h2⟩ := hdels_mem (ns := ns) h
    obtain ⟨h3, h4⟩ := hdel_mem h1
    refine ⟨h3, fun h5 => ?_⟩
    rcases List.mem_cons.1 h5 with h5 | h5
    · exact h4 h5
    · exact h2 h5
inductive HIn (f : Nat → Nat) (Hc : List Ent) : List Ent → Prop
  | nil : HIn f Hc []
  | cons {i : Nat} {o : HObj} {H : List Ent} (h : hget Hc (f i) = some (o.rn f)) (t : HIn f Hc H) : HIn f Hc ((i, o) :: H)
theorem HIn.at {f : Nat → Nat} {Hc H : List Ent} (h : HIn f Hc H) : ∀ {e : Ent}, e ∈ H → (f e.1, e.2.rn f) ∈ Hc := by
  induction h with
  | nil => intro e h; cases h
  | cons h t ih =>
    intro e he
    rcases List.mem_cons.1 he with rfl | he
    · exact hget_mem h
    · exact ih he
def nodupB : List Nat → Bool
  | [] => true
  | n :: ns => !ns.any (Nat.beq n) && nodupB ns
theorem nodupB_at : ∀ {ns : List Nat}, nodupB ns = true → ∀ {i j x : Nat}, ns[i]? = some x → ns[j]? = some x → i = j
  | n :: ns, h, i, j, x, hi, hj => by
    simp only [nodupB, Bool.and_eq_true, Bool.not_eq_true'] at h
    have hno : ∀ k, ns[k]? = some n → False := fun k hk => by
      have := List.any_eq_false.1 h.1 n (List.mem_of_getElem? hk)
      simp at this
    cases i with
    | zero =>
      simp at hi; subst hi
      cases j with
      | zero => rfl
      | succ j => exact (hno j (by simpa using hj)).elim
    | succ i =>
      cases j with
      | zero => simp at hj; subst hj; exact (hno i (by simpa using hi)).elim
      | succ j => rw [nodupB_at h.2 (i := i) (j := j) (by simpa using hi) (by simpa using hj)]

inductive EvsS (σ : Env) (f : Nat → Nat) : List Go.Operand → List SV → Prop
  | nil : EvsS σ f [] []
  | cons {x : Go.Operand} {s : SV} {xs : List Go.Operand} {l : List SV} (h : Ev σ x (s.rn f)) (t : EvsS σ f xs l) : EvsS σ f (x :: xs) (s :: l)
theorem EvsS.at {σ : Env} {f : Nat → Nat} {ρ : Nms} {μ : Mem} {o : Oper} {a : Act} (hl : LookOk ρ μ σ o a) : ∀ {xs : List Go.Operand} {l : List SV}, EvsS σ f xs l → (∀ x ∈ xs, x ∈ o.op.operands.toList) → SV.Rs ρ μ (SV.rns f l) (xs.map a.eval)
  | [], _, .nil, _ => by simp [SV.rns, SV.Rs]
  | x :: xs, _, .cons h t, hm => by
    simp only [SV.rns, SV.Rs, List.map_cons]
    exact ⟨_, _, rfl, h.at hl (hm x List.mem_cons_self), EvsS.at hl t fun y hy => hm y (List.mem_cons_of_mem _ hy)⟩

section
variable {C : Cfg} {σ : Env} {d : Option Tmp} {ty : TypeId} {pos : String} {after : Array Edge} {gu : Option (Nat × Bool)} {Hc : List Ent} {fr0 : Nat}
theorem callE_post {f : FuncId} {fr fr' : Nat} {args : List SV} {H H' : List Ent} {s : SV} {pn : List Nat} (hf : FnE C f fr args H s H' fr' pn) (ns : List Nat) (hn : Nat.beq ns.length fr = true) (hb : ns.all (ltB fr0) = true) (hd : nodupB ns = true)
    (hin : HIn (cfn ns fr0) Hc H) {ρ : Nms} {μ : Mem} {w : World} (ha : Agr μ w) (hH : HeapOk ρ μ w Hc) (hfree : ∀ i, fr0 ≤ i → i < fr0 + (fr' - fr) → ρ i = none) {vs : List Value} (hvs : SV.Rs ρ μ (SV.rns (cfn ns fr0) args) vs) :
    Calls C.P f vs.toArray w fun e w' => ∃ v μ' ρ', e = .returned v ∧ SV.R ρ' μ' (s.rn (cfn ns fr0)) v ∧ HeapOk ρ' μ' w' (hren (cfn ns fr0) H' ++ hdels Hc ns) ∧ Nms.le ρ ρ' ∧ (∀ i, ρ' i ≠ none → ρ i ≠ none ∨ (fr0 ≤ i ∧ i < fr0 + (fr' - fr))) ∧ EStp ρ Hc μ w ρ' (hren (cfn ns fr0) H' ++ hdels Hc ns) μ' w' := by
  have hn := Nat.eq_of_beq_eq_true hn
  have hfr := Nat.le_of_ble_eq_true hf.frOk
  have hlt : ∀ i, i < fr → ∃ j, ns[i]? = some j ∧ cfn ns fr0 i = j ∧ j < fr0 := fun i hi => by
    have h1 : i < ns.length := by omega
    refine ⟨ns[i], List.getElem?_eq_getElem h1, by unfold cfn; rw [List.getElem?_eq_getElem h1], ?_⟩
    have := List.all_eq_true.1 hb ns[i] (List.getElem_mem h1)
    exact Nat.blt_eq ▸ this
  have hge : ∀ i, fr ≤ i → cfn ns fr0 i = fr0 + (i - fr) := fun i hi => by
    unfold cfn; rw [List.getElem?_eq_none (by omega)]; simp only [hn]
  have hltB : ∀ i, ltB fr i = true → i < fr := fun i h => Nat.blt_eq ▸ h
  obtain ⟨ρ1, hρ1⟩ : ∃ ρ1 : Nms, ρ1 = fun i => if i < fr then ρ (cfn ns fr0 i) else none := ⟨_, rfl⟩
  have hag : ∀ i, ltB fr i = true → ρ (cfn ns fr0 i) = ρ1 i := fun i h => by rw [hρ1]; simp only [if_pos (hltB i h)]
  have hHok := hOk_at hf.hOk
  have hent : ∀ e ∈ H, (cfn ns fr0 e.1, e.2.rn (cfn ns fr0)) ∈ Hc ∧ eb ρ1 e = eb ρ (cfn ns fr0 e.1, e.2.rn (cfn ns fr0)) := fun e he => ⟨hin.at he, by unfold eb; rw [hag e.1 (hHok e he).1]⟩
  have hH1 : HeapOk ρ1 μ w H := by
    refine ⟨fun e he => (EntOk.rn hag (hHok e he).1 (hHok e he).2).1 (hH.1 _ (hent e he).1), fun e he e' he' hne g hg => ?_⟩
    rw [(hent e he).2] at hg
    rw [(hent e' he').2]
    refine hH.2 _ (hent e he).1 _ (hent e' he').1 (fun h1 => hne ?_) g hg
    obtain ⟨j, h2, h3, _⟩ := hlt e.1 (hltB _ (hHok e he).1)
    obtain ⟨j', h2', h3', _⟩ := hlt e'.1 (hltB _ (hHok e' he').1)
    have h1 : cfn ns fr0 e.1 = cfn ns fr0 e'.1 := h1
    rw [h3, h3'] at h1
    subst h1
    exact nodupB_at hd h2 h2'
  refine Calls.mono (hf.calls ρ1 μ w vs ((SV.Rs_rn hag hf.argsOk).1 hvs) ha hH1 (fun i hi => by
    rw [hρ1] at hi
    by_cases h : i < fr
    · exact h
    · simp only [if_neg h] at hi; exact absurd rfl hi)) ?_
  rintro e w' ⟨v, μ', ρ1', rfl, h1, h2, h3, h4⟩
  obtain ⟨ρ', hρ'⟩ : ∃ ρ' : Nms, ρ' = fun j => if fr0 ≤ j ∧ j < fr0 + (fr' - fr) then ρ1' (j - fr0 + fr) else ρ j := ⟨_, rfl⟩
  have hle : Nms.le ρ ρ' := fun i u hi => by
    rw [hρ']
    by_cases h : fr0 ≤ i ∧ i < fr0 + (fr' - fr)
    · rw [hfree i h.1 h.2] at hi; cases hi
    · simp only [if_neg h]; exact hi
  have hag' : ∀ i, pnB pn fr fr' i = true → ρ' (cfn ns fr0 i) = ρ1' i := fun i h => by
    unfold pnB at h
    rcases Bool.or_eq_true _ _ ▸ h with h5 | h5
    · obtain ⟨k, h6, h7⟩ := List.any_eq_true.1 h5
      have := Nat.eq_of_beq_eq_true h7
      subst this
      have h8 := List.all_eq_true.1 hf.pnOk i h6
      obtain ⟨j, _, h9, h10⟩ := hlt i (hltB i h8)
      rw [h3 i h6, ← hag i h8, hρ', h9]
      simp only [if_neg (show ¬ (fr0 ≤ j ∧ j < fr0 + (fr' - fr)) by omega)]
    · simp only [Bool.and_eq_true] at h5
      have h6 := Nat.le_of_ble_eq_true h5.1
      have h7 : i < fr' := Nat.blt_eq ▸ h5.2
      rw [hge i h6, hρ']
      simp only [if_pos (show fr0 ≤ fr0 + (i - fr) ∧ fr0 + (i - fr) < fr0 + (fr' - fr) by omega)]
      rw [show fr0 + (i - fr) - fr0 + fr = i by omega]
  have hHok' := hOk_at hf.hOk'
  have hout : ∀ e ∈ hren (cfn ns fr0) H', ∃ e0 ∈ H', e = (cfn ns fr0 e0.1, e0.2.rn (cfn ns fr0)) ∧ eb ρ' e = eb ρ1' e0 := fun e he => by
    obtain ⟨e0, h5, rfl⟩ := hren_mem he
    exact ⟨e0, h5, rfl, by unfold eb; rw [hag' e0.1 (hHok' e0 h5).1]⟩
  have hrest : ∀ e ∈ hdels Hc ns, e ∈ Hc ∧ eb ρ' e = eb ρ e ∧ ∀ g, eb ρ e = some g → ∀ e0 ∈ H, eb ρ1 e0 ≠ some g := fun e he => by
    obtain ⟨h5, h6⟩ := hdels_mem he
    refine ⟨h5, eb_le hle (hH.1 e h5).named, fun g hg e0 he0 hg0 => ?_⟩
    rw [(hent e0 he0).2] at hg0
    refine hH.2 _ (hent e0 he0).1 e h5 (fun h7 => h6 ?_) g hg0 hg
    obtain ⟨j, h8, h9, _⟩ := hlt e0.1 (hltB _ (hHok e0 he0).1)
    have h7 : cfn ns fr0 e0.1 = e.1 := h7
    rw [h9] at h7
    subst h7
    exact List.mem_of_getElem? h8
  refine ⟨v, μ', ρ', rfl, (SV.R_rn hag' hf.resOk).2 h1, ⟨fun e he => ?_, fun e he e' he' hne g hg hg' => ?_⟩, hle, fun i hi => ?_, ⟨h4.os, h4.tape, h4.output, h4.size, fun k hk hno => h4.block k hk fun e he => ?_, h4.le, fun b hb => ?_, h4.agr, fun e he g hg => ?_⟩⟩
  · rcases List.mem_append.1 he with he | he
    · obtain ⟨e0, h5, rfl, _⟩ := hout e he
      exact (EntOk.rn hag' (hHok' e0 h5).1 (hHok' e0 h5).2).2 (h2.1 e0 h5)
    · obtain ⟨h5, h6, h7⟩ := hrest e he
      refine (hH.1 e h5).keep hle h4.le fun g hg => ?_
      obtain ⟨h8, h9⟩ := (hH.1 e h5).lt hg
      refine ⟨h4.block g h8 (h7 g hg), ?_⟩
      cases e1 : μ' g with
      | none => rfl
      | some cs =>
        rcases h4.new g (by rw [e1]; simp) with h10 | h10 | ⟨e0, h10, h11⟩
        · exact absurd h9 h10
        · omega
        · exact absurd h11 (h7 g hg e0 h10)
  · have key : ∀ e ∈ hren (cfn ns fr0) H', ∀ e' ∈ hdels Hc ns, ∀ g, eb ρ' e = some g → eb ρ' e' ≠ some g := fun e he e' he' g hg hg' => by
      obtain ⟨e0, h5, rfl, h6⟩ := hout e he
      obtain ⟨h7, h8, h9⟩ := hrest e' he'
      rw [h6] at hg
      rw [h8] at hg'
      rcases h4.own e0 h5 g hg with ⟨e1, h10, h11⟩ | h10
      · exact h9 g hg' e1 h10 h11
      · have := ((hH.1 e' h7).lt hg').1; omega
    rcases List.mem_append.1 he with he | he
    · rcases List.mem_append.1 he' with he' | he'
      · obtain ⟨e0, h5, rfl, h6⟩ := hout e he
        obtain ⟨e0', h5', rfl, h6'⟩ := hout e' he'
        rw [h6] at hg
        rw [h6'] at hg'
        exact h2.2 e0 h5 e0' h5' (fun h => hne (by simp only [h])) g hg hg'
      · exact key e he e' he' g hg hg'
    · rcases List.mem_append.1 he' with he' | he'
      · exact key e' he' e he g hg' hg
      · obtain ⟨h5, h6, _⟩ := hrest e he
        obtain ⟨h5', h6', _⟩ := hrest e' he'
        rw [h6] at hg
        rw [h6'] at hg'
        exact hH.2 e h5 e' h5' hne g hg hg'
  · rw [hρ'] at hi
    by_cases h : fr0 ≤ i ∧ i < fr0 + (fr' - fr)
    · exact .inr h
    · simp only [if_neg h] at hi; exact .inl hi
  · rw [(hent e he).2]
    exact hno _ (hent e he).1
  · rcases h4.new b hb with h5 | h5 | ⟨e, h5, h6⟩
    · exact .inl h5
    · exact .inr (.inl h5)
    · exact .inr (.inr ⟨_, (hent e h5).1, by rw [← (hent e h5).2]; exact h6⟩)
  · rcases List.mem_append.1 he with he | he
    · obtain ⟨e0, h5, rfl, h6⟩ := hout e he
      rw [h6] at hg
      rcases h4.own e0 h5 g hg with ⟨e1, h7, h8⟩ | h7
      · exact .inl ⟨_, (hent e1 h7).1, by rw [← (hent e1 h7).2]; exact h8⟩
      · exact .inr h7
    · obtain ⟨h5, h6, _⟩ := hrest e he
      rw [h6] at hg
      exact .inl ⟨e, h5, hg⟩
theorem ope_callE {f : FuncId} {xs : List Go.Operand} {tys : Array TypeId} {fr fr' : Nat} {args : List SV} {H H' : List Ent} {s : SV} {pn : List Nat} (ns : List Nat) (hf : FnE C f fr args H s H' fr' pn) (hx : EvsS σ (cfn ns fr0) xs args) (hn : Nat.beq ns.length fr = true) (hb : ns.all (ltB fr0) = true) (hd : nodupB ns = true) (hin : HIn (cfn ns fr0) Hc H) :
    OpE C ⟨d, .call { callee := .value (.func f), args := xs.toArray, argTypes := tys }, ty, pos, after, gu⟩ σ Hc fr0 (s.rn (cfn ns fr0)) (hren (cfn ns fr0) H' ++ hdels Hc ns) (fr0 + (fr' - fr)) := fun ρ μ a w hl ha hH hfree => by
  obtain ⟨fn, h1, h2, h3⟩ := hf.fn
  have h5 := hx.at hl (fun x hx => by simp [Op.operands, Call.operands, hx])
  have h6 : (execOp a.eval ⟨d, .call { callee := .value (.func f), args := xs.toArray, argTypes := tys }, ty, pos, after, gu⟩).run C.P w = .ok (.enter f (xs.map a.eval).toArray) w := by
    simp [execOp, resolve, Act.eval, Deferred.ofValue, invoke, run_callFunc h1 h2 h3]
  unfold Oper.wp
  rw [h6]
  refine Calls.mono (callE_post hf ns hn hb hd hin ha hH hfree h5) ?_
  rintro e w' ⟨v, μ', ρ', rfl, h⟩
  exact ⟨v, μ', ρ', rfl, h⟩
theorem Rs_append {ρ : Nms} {μ : Mem} : ∀ {l l' : List SV} {vs vs' : List Value}, SV.Rs ρ μ l vs → SV.Rs ρ μ l' vs' → SV.Rs ρ μ (l ++ l') (vs ++ vs')
  | [], _, _, _, h, h' => by unfold SV.Rs at h; subst h; exact h'
  | s :: l, _, _, _, h, h' => by
    unfold SV.Rs at h
    obtain ⟨v, vs2, rfl, h1, h2⟩ := h
    show SV.Rs ρ μ (s :: (l ++ _)) (v :: (vs2 ++ _))
    unfold SV.Rs
    exact ⟨v, _, rfl, h1, Rs_append h2 h'⟩
theorem rns_append (f : Nat → Nat) : ∀ (l l' : List SV), SV.rns f (l ++ l') = SV.rns f l ++ SV.rns f l'
  | [], _ => rfl
  | s :: l, l' => by simp only [List.cons_append, SV.rns, rns_append f l l']
theorem ope_callFnE {f : FuncId} {x : Go.Operand} {xs : List Go.Operand} {tys : Array TypeId} {fr fr' : Nat} {args caps : List SV} {H H' : List Ent} {s : SV} {pn : List Nat} (ns : List Nat) (hv : Ev σ x (.fn f (SV.rns (cfn ns fr0) caps))) (hf : FnE C f fr (args ++ caps) H s H' fr' pn) (hx : EvsS σ (cfn ns fr0) xs args)
    (hn : Nat.beq ns.length fr = true) (hb : ns.all (ltB fr0) = true) (hd : nodupB ns = true) (hin : HIn (cfn ns fr0) Hc H) :
    OpE C ⟨d, .call { callee := .value x, args := xs.toArray, argTypes := tys }, ty, pos, after, gu⟩ σ Hc fr0 (s.rn (cfn ns fr0)) (hren (cfn ns fr0) H' ++ hdels Hc ns) (fr0 + (fr' - fr)) := fun ρ μ a w hl ha hH hfree => by
  obtain ⟨fn, h1, h2, h3⟩ := hf.fn
  have h9 := hv.at hl (by simp [Op.operands, Call.operands])
  unfold SV.R at h9
  obtain ⟨cs, h9, h10⟩ := h9
  have h5 := hx.at hl (fun x hx => by simp [Op.operands, Call.operands, hx])
  have h6 : (execOp a.eval ⟨d, .call { callee := .value x, args := xs.toArray, argTypes := tys }, ty, pos, after, gu⟩).run C.P w = .ok (.enter f (xs.map a.eval ++ cs).toArray) w := by
    simp [execOp, resolve, h9, Deferred.ofValue, invoke, run_callFunc h1 h2 h3]
  unfold Oper.wp
  rw [h6]
  refine Calls.mono (callE_post hf ns hn hb hd hin ha hH hfree (by rw [rns_append]; exact Rs_append h5 h10)) ?_
  rintro e w' ⟨v, μ', ρ', rfl, h⟩
  exact ⟨v, μ', ρ', rfl, h⟩
theorem opn_makeFuncS {f : FuncId} {caps : List Go.Operand} {l : List SV} (hx : EvsS σ (fun i => i) caps l) : OpN C ⟨d, .makeFunc (.func f) #[] caps.toArray, ty, pos, after, gu⟩ σ (.fn f l) := OpN.pure fun ρ μ a w hl ha => by
  have h := hx.at hl (fun x hx => by simp [Op.operands, hx])
  rw [SV.rns_id] at h
  exact ⟨.func (.func f) #[] (caps.map a.eval).toArray, by simp [execOp, Instr.makeFunc], by unfold SV.R; exact ⟨_, rfl, h⟩⟩
end

/- its proof -/
def SV.named : SV → Bool
  | .im _ => false
  | _ => true
def envS : Nat → List SV → List Value → Env
  | i, s :: l, v :: vs => (match s.named with
    | true => (i, .is v s)
    | false => (i, s)) :: envS (i + 1) l vs
  | _, _, _ => []
theorem envS_at {ρ : Nms} {μ : Mem} : ∀ {l : List SV} {vs : List Value} {i t : Nat} {s : SV}, SV.Rs ρ μ l vs → lk (envS i l vs) t = some s → ∃ j v, t = i + j ∧ vs[j]? = some v ∧ SV.R ρ μ s v
  | [], _, i, t, s, _, h => by simp [envS, lk] at h
  | s0 :: l, vs, i, t, s, hr, h => by
    unfold SV.Rs at hr
    obtain ⟨v, vs', rfl, h1, h2⟩ := hr
    have key : ∀ s1, SV.R ρ μ s1 v → lk ((i, s1) :: envS (i + 1) l vs') t = some s → ∃ j u, t = i + j ∧ (v :: vs')[j]? = some u ∧ SV.R ρ μ s u := fun s1 hs1 h => by
      simp only [lk] at h
      cases hb : Nat.beq i t with
      | true => rw [hb] at h; injection h with h; subst h; exact ⟨0, v, by rw [← Nat.eq_of_beq_eq_true hb]; rfl, rfl, hs1⟩
      | false =>
        rw [hb] at h
        obtain ⟨j, u, h3, h4, h5⟩ := envS_at h2 h
        exact ⟨j + 1, u, by omega, by simpa using h4, h5⟩
    unfold envS at h
    cases hn : s0.named with
    | true => rw [hn] at h; exact key _ (by unfold SV.R; exact ⟨rfl, h1⟩) h
    | false => rw [hn] at h; exact key _ h1 h
mutual
def SV.pinS (i : Nat) : SV → Bool
  | .im _ => false
  | .off _ _ => false
  | .row j _ => Nat.beq i j
  | .agg l => SV.pinSs i l
  | .cnd _ _ => false
  | .fn _ l => SV.pinSs i l
  | .is _ s => SV.pinS i s
def SV.pinSs (i : Nat) : List SV → Bool
  | [] => false
  | s :: l => SV.pinS i s || SV.pinSs i l
end
mutual
def SV.pinW (i : Nat) : SV → Bool
  | .im _ => false
  | .off j _ => Nat.beq i j
  | .row _ _ => false
  | .agg l => SV.pinWs i l
  | .cnd _ _ => false
  | .fn _ l => SV.pinWs i l
  | .is _ s => SV.pinW i s
def SV.pinWs (i : Nat) : List SV → Bool
  | [] => false
  | s :: l => SV.pinW i s || SV.pinWs i l
end
theorem toArray_inj' {a b : List Value} (h : a.toArray = b.toArray) : a = b := by simpa using h
mutual
theorem SV.pinS_at {i : Nat} {ρ ρ' : Nms} {μ μ' : Mem} : ∀ {s : SV} {v : Value}, SV.pinS i s = true → SV.R ρ μ s v → SV.R ρ' μ' s v → ρ' i = ρ i
  | .im _, _, h, _, _ => by simp [SV.pinS] at h
  | .off _ _, _, h, _, _ => by simp [SV.pinS] at h
  | .row j n, v, h, a, b => by
    have := Nat.eq_of_beq_eq_true (by simpa only [SV.pinS] using h : Nat.beq i j = true)
    subst this
    unfold SV.R at a b
    rw [a.1, b.1]
  | .agg l, v, h, a, b => by
    unfold SV.R at a b
    obtain ⟨vs, rfl, a, _⟩ := a
    obtain ⟨vs', e, b, _⟩ := b
    injection e with e
    rw [← toArray_inj' e] at b
    exact SV.pinSs_at (by simpa only [SV.pinS] using h) a b
  | .cnd _ _, _, h, _, _ => by simp [SV.pinS] at h
  | .fn f l, v, h, a, b => by
    unfold SV.R at a b
    obtain ⟨vs, rfl, a⟩ := a
    obtain ⟨vs', e, b⟩ := b
    injection e with _ _ e
    rw [← toArray_inj' e] at b
    exact SV.pinSs_at (by simpa only [SV.pinS] using h) a b
  | .is u s, v, h, a, b => by
    unfold SV.R at a b
    exact SV.pinS_at (by simpa only [SV.pinS] using h) a.2 b.2
theorem SV.pinSs_at {i : Nat} {ρ ρ' : Nms} {μ μ' : Mem} : ∀ {l : List SV} {vs : List Value}, SV.pinSs i l = true → SV.Rs ρ μ l vs → SV.Rs ρ' μ' l vs → ρ' i = ρ i
  | [], _, h, _, _ => by simp [SV.pinSs] at h
  | s :: l, vs, h, a, b => by
    unfold SV.Rs at a b
    obtain ⟨v, vs1, rfl, a1, a2⟩ := a
    obtain ⟨v', vs1', e, b1, b2⟩ := b
    injection e with e1 e2
    subst e1 e2
    simp only [SV.pinSs, Bool.or_eq_true] at h
    rcases h with h | h
    · exact SV.pinS_at h a1 b1
    · exact SV.pinSs_at h a2 b2
end
mutual
theorem SV.pinW_at {i : Nat} {ρ ρ' : Nms} {μ μ' : Mem} : ∀ {s : SV} {v : Value}, SV.pinW i s = true → SV.R ρ μ s v → SV.R ρ' μ' s v → ∃ g, (ρ i).bind blk = some g ∧ (ρ' i).bind blk = some g
  | .im _, _, h, _, _ => by simp [SV.pinW] at h
  | .off j o, v, h, a, b => by
    have := Nat.eq_of_beq_eq_true (by simpa only [SV.pinW] using h : Nat.beq i j = true)
    subst this
    unfold SV.R at a b
    obtain ⟨g, a1, rfl⟩ := a
    obtain ⟨g', b1, e⟩ := b
    injection e with e; injection e with e; injection e with e
    subst e
    exact ⟨g, a1, b1⟩
  | .row _ _, _, h, _, _ => by simp [SV.pinW] at h
  | .agg l, v, h, a, b => by
    unfold SV.R at a b
    obtain ⟨vs, rfl, a, _⟩ := a
    obtain ⟨vs', e, b, _⟩ := b
    injection e with e
    rw [← toArray_inj' e] at b
    exact SV.pinWs_at (by simpa only [SV.pinW] using h) a b
  | .cnd _ _, _, h, _, _ => by simp [SV.pinW] at h
  | .fn f l, v, h, a, b => by
    unfold SV.R at a b
    obtain ⟨vs, rfl, a⟩ := a
    obtain ⟨vs', e, b⟩ := b
    injection e with _ _ e
    rw [← toArray_inj' e] at b
    exact SV.pinWs_at (by simpa only [SV.pinW] using h) a b
  | .is u s, v, h, a, b => by
    unfold SV.R at a b
    exact SV.pinW_at (by simpa only [SV.pinW] using h) a.2 b.2
theorem SV.pinWs_at {i : Nat} {ρ ρ' : Nms} {μ μ' : Mem} : ∀ {l : List SV} {vs : List Value}, SV.pinWs i l = true → SV.Rs ρ μ l vs → SV.Rs ρ' μ' l vs → ∃ g, (ρ i).bind blk = some g ∧ (ρ' i).bind blk = some g
  | [], _, h, _, _ => by simp [SV.pinWs] at h
  | s :: l, vs, h, a, b => by
    unfold SV.Rs at a b
    obtain ⟨v, vs1, rfl, a1, a2⟩ := a
    obtain ⟨v', vs1', e, b1, b2⟩ := b
    injection e with e1 e2
    subst e1 e2
    simp only [SV.pinWs, Bool.or_eq_true] at h
    rcases h with h | h
    · exact SV.pinW_at h a1 b1
    · exact SV.pinWs_at h a2 b2
end
def isBlk (H : List Ent) (i : Nat) : Bool := match hget H i with
  | some (.blk _ _) => true
  | _ => false
theorem isBlk_at {H : List Ent} {i : Nat} (h : isBlk H i = true) {ρ : Nms} {μ : Mem} {w : World} (hH : HeapOk ρ μ w H) : ∃ g, ρ i = some (.pointer (some ⟨g, 0, none⟩)) := by
  unfold isBlk at h
  cases e : hget H i with
  | none => rw [e] at h; cases h
  | some o =>
    rw [e] at h
    cases o with
    | row => cases h
    | blk t cs =>
      obtain ⟨g, us, h1, _⟩ := hH.1 _ (hget_mem e)
      exact ⟨g, h1⟩
/- which names stay, by what slots keep: a name, and the argument that holds it -/
def pinOk (args : List SV) (H H' : List Ent) (pt : List (Nat × Nat)) : Bool := pt.all fun p => match args[p.2]? with
  | some s => SV.pinS p.1 s || (SV.pinW p.1 s && isBlk H p.1 && isBlk H' p.1)
  | none => false
inductive HSb (H : List Ent) : List Ent → Prop
  | nil : HSb H []
  | cons {i : Nat} {o : HObj} {H' : List Ent} (h : hget H i = some o) (t : HSb H H') : HSb H ((i, o) :: H')
theorem HSb.at {H H' : List Ent} (h : HSb H H') : ∀ e ∈ H', e ∈ H := by
  induction h with
  | nil => intro e he; cases he
  | cons h t ih =>
    intro e he
    rcases List.mem_cons.1 he with rfl | he
    · exact hget_mem h
    · exact ih e he
def RetOkE (C : Cfg) (F : Fx) (nt : Nat) (fn : Func) (args : List SV) (vs : List Value) (s : SV) (H' : List Ent) (pt : List (Nat × Nat)) (y : St) : Prop := ∀ μ ρ a w, Inv F nt y μ ρ a w → ∃ v, (results fn a.tmps).run C.P w = .ok v w ∧ SV.R ρ μ s v ∧ (∀ e ∈ H', e ∈ y.H) ∧ ∀ p ∈ pt, ∃ s v, args[p.2]? = some s ∧ vs[p.2]? = some v ∧ SV.R ρ μ s v
def FnEQ (C : Cfg) (F : Fx) (nt : Nat) (fn : Func) (args : List SV) (vs : List Value) (s : SV) (H' : List Ent) (pt : List (Nat × Nat)) : Exit → St → Prop
  | .normal, y => RetOkE C F nt fn args vs s H' pt y
  | .ret, y => RetOkE C F nt fn args vs s H' pt y
  | _, _ => False
theorem FnE.of_wp {C : Cfg} {f : FuncId} {fn : Func} {c : Code} {fr fr' : Nat} {args : List SV} {H H' : List Ent} {s : SV} {pn : List Nat} (nt : Nat) (pt : List (Nat × Nat)) (hf : C.P.funcs[f]? = some fn) (hb : fn.body = some c) (hname : (fn.name == "runtime.NumGoroutine") = false) (hnt : fn.ntmps = nt) (hn : Nat.ble args.length nt = true)
    (h1 : SV.nms (ltB fr) args = true) (h2 : Go.Proofs.Ytjgmbgfcffnanac.hOk (ltB fr) H = true) (h3 : SV.nm (pnB pn fr fr') s = true) (h4 : Go.Proofs.Ytjgmbgfcffnanac.hOk (pnB pn fr fr') H' = true) (h5 : pn.all (ltB fr) = true) (h6 : Nat.ble fr fr' = true) (h7 : pinOk args H H' pt = true) (h8 : pn = pt.map (·.1))
    (h : ∀ (F : Fx) (vs : List Value), F.D = [] → vs.length = args.length → WP C F nt c (FnEQ C F nt fn args vs s H' pt) ⟨envS 0 args vs, H, fr⟩) : FnE C f fr args H s H' fr' pn := by
  refine ⟨⟨fn, hf, by rw [hb]; rfl, hname⟩, h1, h2, h3, h4, h5, h6, fun ρ μ w vs hvs ha hH hnm => ?_⟩
  have hlen := hvs.length
  refine calls_of_wp hf hb ?_
  have hle := Nat.le_of_ble_eq_true hn
  have hi : Inv ⟨w, μ, fun g => ∃ e ∈ H, eb ρ e = some g, []⟩ nt ⟨envS 0 args vs, H, fr⟩ μ ρ { tmps := vs.toArray ++ Array.replicate (fn.ntmps - vs.toArray.size) undef, defers := [] } w := by
    refine ⟨by simp; omega, rfl, fun t s hs => ?_, ha, hH, hnm, rfl, rfl, rfl, Nat.le_refl _, fun _ _ _ => rfl, Mem.le.refl _, fun b hb => .inl hb, fun e he g hg => .inl ⟨e, he, hg⟩⟩
    obtain ⟨j, v, k1, k2, k3⟩ := envS_at hvs hs
    rw [Nat.zero_add] at k1
    subst k1
    have hj : t < vs.length := (List.getElem?_eq_some_iff.1 k2).1
    have : (vs.toArray ++ Array.replicate (fn.ntmps - vs.toArray.size) undef).getD t undef = v := by
      rw [Array.getD_eq_getD_getElem?, Array.getElem?_append_left (by simpa using hj)]
      simp [k2]
    rw [this]; exact k3
  refine wp_mono (h ⟨w, μ, fun g => ∃ e ∈ H, eb ρ e = some g, []⟩ vs rfl hlen μ ρ _ w hi) ?_
  rintro e a' w' ⟨y, μ', ρ', hq, hy⟩
  have key : RetOkE C ⟨w, μ, fun g => ∃ e ∈ H, eb ρ e = some g, []⟩ nt fn args vs s H' pt y → a'.defers = [] ∧ ∃ v, (results fn a'.tmps).run C.P w' = .ok v w' ∧ ∃ v_1 μ' ρ', Ending.returned v = .returned v_1 ∧ SV.R ρ' μ' s v_1 ∧ HeapOk ρ' μ' w' H' ∧ (∀ i ∈ pn, ρ' i = ρ i) ∧ EStp ρ H μ w ρ' H' μ' w' := fun hr => by
    obtain ⟨v, k1, k2, k3, k4⟩ := hr μ' ρ' a' w' hy
    refine ⟨hy.defers, v, k1, v, μ', ρ', rfl, k2, hy.heap.sub k3, fun i hi => ?_, ⟨hy.os, hy.tape, hy.output, hy.hsize, fun k hk hno => hy.block k hk (fun ⟨e, he, hg⟩ => hno e he hg), hy.le, hy.new, hy.agr, fun e he g hg => hy.own e (k3 e he) g hg⟩⟩
    rw [h8, List.mem_map] at hi
    obtain ⟨p, hp, rfl⟩ := hi
    have k5 := List.all_eq_true.1 h7 p hp
    obtain ⟨s1, v1, k6, k7, k8⟩ := k4 p hp
    simp only [k6, Bool.or_eq_true, Bool.and_eq_true] at k5
    obtain ⟨v1', k7', k9⟩ := hvs.get k6
    rw [k7] at k7'
    injection k7' with k7'
    subst k7'
    rcases k5 with k5 | ⟨⟨k5, k6⟩, k7⟩
    · exact SV.pinS_at k5 k9 k8
    · obtain ⟨g, k8, k9⟩ := SV.pinW_at k5 k9 k8
      obtain ⟨g1, k10⟩ := isBlk_at k6 hH
      obtain ⟨g2, k11⟩ := isBlk_at k7 (hy.heap.sub k3)
      rw [k10] at k8
      rw [k11] at k9
      simp only [Option.bind_some, blk, Option.some.injEq] at k8 k9
      rw [k10, k11, k8, k9]
  cases e with
  | normal => exact key hq
  | ret => exact key hq
  | _ => exact hq.elim

section
variable {C : Cfg} {F : Fx} {nt : Nat} {fn : Func} {y : St} {args : List SV} {vs : List Value} {H' : List Ent}
/- the slots still hold the arguments -/
inductive Kept (args : List SV) (vs : List Value) (y : St) : List (Nat × Nat) → Prop
  | nil : Kept args vs y []
  | cons {i t : Nat} {s : SV} {v : Value} {pt : List (Nat × Nat)} (h1 : args[t]? = some s) (h2 : vs[t]? = some v) (h : lk y.σ t = some (.is v s)) (k : Kept args vs y pt) : Kept args vs y ((i, t) :: pt)
theorem Kept.at {pt : List (Nat × Nat)} (h : Kept args vs y pt) {μ : Mem} {ρ : Nms} {a : Act} {w : World} (hi : Inv F nt y μ ρ a w) : ∀ p ∈ pt, ∃ s v, args[p.2]? = some s ∧ vs[p.2]? = some v ∧ SV.R ρ μ s v := by
  induction h with
  | nil => intro p hp; cases hp
  | @cons i t s v pt h1 h2 h k ih =>
    intro p hp
    rcases List.mem_cons.1 hp with rfl | hp
    · have h3 := hi.env t _ h
      unfold SV.R at h3
      exact ⟨s, v, h1, h2, by rw [← h3.1]; exact h3.2⟩
    · exact ih p hp
theorem RetOkE.one {r : ResultVar} {s : IV} {pt : List (Nat × Nat)} (hr : fn.results = #[r]) (h : ResV C y r s) (hH : HSb y.H H') (hk : Kept args vs y pt) : RetOkE C F nt fn args vs (.im s) H' pt y := fun μ ρ a w hi => by
  obtain ⟨v, h1, h2⟩ := h.run hi
  refine ⟨v, ?_, R_im.2 h2, hH.at, hk.at hi⟩
  rw [results_run (rs := [r]) (vs := [v]) hr (by simp [h1])]
  rfl
theorem RetOkE.sv {t : Nat} {s : SV} {pt : List (Nat × Nat)} (hr : fn.results = #[.tmp t]) (h : lk y.σ t = some s) (hH : HSb y.H H') (hk : Kept args vs y pt) : RetOkE C F nt fn args vs s H' pt y := fun μ ρ a w hi => by
  refine ⟨a.tmps.getD t undef, ?_, hi.env t s h, hH.at, hk.at hi⟩
  rw [results_run (rs := [.tmp t]) (vs := [a.tmps.getD t undef]) hr (by simp [resOf])]
  rfl
theorem RetOkE.none {pt : List (Nat × Nat)} (hr : fn.results = #[]) (hH : HSb y.H H') (hk : Kept args vs y pt) : RetOkE C F nt fn args vs (.im (IV.tup [])) H' pt y := fun μ ρ a w hi => by
  refine ⟨.tuple #[], ?_, R_im.2 ⟨[], rfl, rfl⟩, hH.at, hk.at hi⟩
  rw [results_run (rs := []) (vs := []) hr (by simp)]
  rfl
theorem RetOkE.tup {rs : List ResultVar} {ss : List IV} {pt : List (Nat × Nat)} (hr : fn.results = rs.toArray) (hl : Nat.beq rs.length 1 = false) (h : ResVs C y rs ss) (hH : HSb y.H H') (hk : Kept args vs y pt) : RetOkE C F nt fn args vs (.im (IV.tup ss)) H' pt y := fun μ ρ a w hi => by
  obtain ⟨us, h1, h2⟩ := h.run hi
  refine ⟨.tuple us.toArray, ?_, R_im.2 ⟨us, rfl, h2⟩, hH.at, hk.at hi⟩
  rw [results_run hr h1]
  have h3 : us.length = rs.length := by
    have h4 := h2.length
    have : ∀ {rs : List ResultVar} {ss : List IV}, ResVs C y rs ss → rs.length = ss.length := by
      intro rs ss h
      induction h with
      | nil => rfl
      | cons _ _ ih => simp [ih]
    rw [h4, this h]
  rw [dif_neg]
  have := Nat.ne_of_beq_eq_false hl
  simpa [h3] using this
end
end Go.Proofs.Ytjgmbgfcffnanac
