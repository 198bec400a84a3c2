/- The logic's rules for operations that make memory or turn what the call owns. Over any program. No condition. -/
import Derived.Test.YtjgmbgfcffnanacLog4
import Derived.Laws.OwnMore
import Derived.Laws.CopyRow
namespace Go.Proofs.Ytjgmbgfcffnanac
open Go.RowKit

/- the cells of a value -/
def Cs (s : SV) (l : List SV) : Prop := ∀ ρ μ v, SV.R ρ μ s v → SV.Rs ρ μ l v.cells.toList ∧ One v.cells.toList
theorem cs_agg {l : List SV} : Cs (.agg l) l := fun ρ μ v h => by
  unfold SV.R at h
  obtain ⟨vs, rfl, h1, h2⟩ := h
  exact ⟨h1, h2⟩
theorem cs_iagg {l : List IV} : Cs (.im (IV.agg l)) (l.map SV.im) := fun ρ μ v h => by
  obtain ⟨vs, rfl, h1, h2⟩ := R_im.1 h
  exact ⟨SV.Rs.im.2 h1, h2⟩
theorem cs_one' {s : SV} (h : ∀ ρ μ v, SV.R ρ μ s v → v.oneCell' = true) : Cs s [s] := fun ρ μ v hv => by
  have h1 := h ρ μ v hv
  have h2 : v.cells = #[v] := by cases v <;> first | rfl | cases h1
  rw [h2]
  exact ⟨by unfold SV.Rs; exact ⟨v, [], rfl, hv, by unfold SV.Rs; rfl⟩, fun u hu => by simp at hu; subst hu; exact h1⟩
theorem cs_val {u : Value} (h : u.oneCell' = true) : Cs (.im (IV.val u)) [.im (IV.val u)] := cs_one' fun ρ μ v hv => by rw [show v = u from R_im.1 hv]; exact h
theorem cs_view {α : Type} {k : Nat} {enc : α → List IV} {xs : List α} : Cs (.im (IV.view k enc xs)) [.im (IV.view k enc xs)] := cs_one' fun ρ μ v hv => by obtain ⟨A, c, rfl, _⟩ := R_im.1 hv; rfl
theorem cs_ptr {l : List IV} : Cs (.im (IV.ptr l)) [.im (IV.ptr l)] := cs_one' fun ρ μ v hv => by obtain ⟨b, o, rfl, _⟩ := R_im.1 hv; rfl
theorem cs_fn {f : FuncId} {l : List IV} : Cs (.im (IV.fn f l)) [.im (IV.fn f l)] := cs_one' fun ρ μ v hv => by obtain ⟨vs, rfl, _⟩ := R_im.1 hv; rfl
theorem cs_row {i n : Nat} : Cs (.row i n) [.row i n] := cs_one' fun ρ μ v hv => by unfold SV.R at hv; obtain ⟨_, A, c, rfl, _⟩ := hv; rfl
theorem cs_off {i o : Nat} : Cs (.off i o) [.off i o] := cs_one' fun ρ μ v hv => by unfold SV.R at hv; obtain ⟨g, _, rfl⟩ := hv; rfl

/- all read in immutable memory -/
def ims : List SV → Option (List IV)
  | [] => some []
  | .im s :: l => match ims l with
    | some l' => some (s :: l')
    | none => none
  | _ :: _ => none
theorem ims_map : ∀ {l : List SV} {l' : List IV}, ims l = some l' → l = l'.map SV.im
  | [], l', h => by simp [ims] at h; subst h; rfl
  | .im s :: l, l', h => by
    simp only [ims] at h
    cases h1 : ims l with
    | none => rw [h1] at h; cases h
    | some l2 => rw [h1] at h; injection h with h; subst h; rw [ims_map h1]; rfl
  | .off _ _ :: _, _, h => by simp [ims] at h
  | .row _ _ :: _, _, h => by simp [ims] at h
  | .agg _ :: _, _, h => by simp [ims] at h
  | .cnd _ _ :: _, _, h => by simp [ims] at h

/- a new block that will never change -/
def Mem.add (μ : Mem) (b : Nat) (cs : Array Value) : Mem := fun x => if x = b then some cs else μ x
theorem Stp.newCells {μ : Mem} {w : World} (ha : Agr μ w) (cs : Array Value) (t : TypeId) : Stp μ w (μ.add w.heap.size cs) (w.alloc (.cells cs t)) := by
  refine ⟨(Below.refl _ _).alloc (Nat.le_refl _) _, fun b c h => ?_, fun b h => ?_, fun b c h => ?_⟩
  · unfold Mem.add
    by_cases e : b = w.heap.size
    · exact absurd (ha.lt (by rw [h]; simp)) (by omega)
    · rw [if_neg e]; exact h
  · by_cases e : b = w.heap.size
    · exact .inr (by omega)
    · unfold Mem.add at h; rw [if_neg e] at h; exact .inl h
  · unfold Mem.add at h
    by_cases e : b = w.heap.size
    · rw [if_pos e] at h; injection h with h; subst h; subst e
      exact ⟨t, (0, 0), heap_alloc_new w _⟩
    · rw [if_neg e] at h
      obtain ⟨t', fz, hh⟩ := ha b c h
      have hlt := (Array.getElem?_eq_some_iff.1 hh).1
      exact ⟨t', fz, by rw [Below.heap_alloc w _ _ hlt]; exact hh⟩
theorem Stp.alloc {μ : Mem} {w : World} (ha : Agr μ w) (o : Obj) : Stp μ w μ (w.alloc o) := by
  refine ⟨(Below.refl _ _).alloc (Nat.le_refl _) _, Mem.le.refl _, fun b h => .inl h, fun b c h => ?_⟩
  obtain ⟨t', fz, hh⟩ := ha b c h
  have hlt := (Array.getElem?_eq_some_iff.1 hh).1
  exact ⟨t', fz, by rw [Below.heap_alloc w _ _ hlt]; exact hh⟩
theorem Cells.new {μ : Mem} {w : World} {l : List IV} {vs : List Value} (h : IVs μ l vs) (h1 : One vs) (hl : Mem.le μ (μ.add w.heap.size vs.toArray)) : Cells (μ.add w.heap.size vs.toArray) w.heap.size 0 l := fun j s hj => by
  obtain ⟨v, h2, h3⟩ := h.get hj
  refine ⟨vs.toArray, v, by unfold Mem.add; rw [if_pos rfl], by rw [Nat.zero_add]; simpa using h2, s.mono hl h3, h1 v (List.mem_of_getElem? h2)⟩

section
variable {C : Cfg} {σ : Env} {d : Option Tmp} {ty : TypeId} {pos : String} {after : Array Edge} {gu : Option (Nat × Bool)}

theorem run_newVar (t : TypeId) (v : Value) (w : World) : (newVar t v).run C.P w = .ok ⟨w.heap.size, 0, none⟩ (w.alloc (.cells v.cells t)) := by
  simp [newVar, newRow, newObj, Sem.run]
theorem opn_box {t : TypeId} {x : Operand} {s : SV} {l : List SV} {l' : List IV} (hx : Ev σ x s) (hc : Cs s l) (hi : ims l = some l') : OpN C ⟨d, .box t x, ty, pos, after, gu⟩ σ (.im (IV.ptr l')) := OpN.run fun ρ μ a w hl ha => by
  obtain ⟨h1, h2⟩ := hc ρ μ _ (hx.at hl (by simp [Op.operands]))
  rw [ims_map hi] at h1
  have hs := Stp.newCells ha (a.eval x).cells t
  refine ⟨_, _, _, ?_, R_im.2 ⟨w.heap.size, 0, rfl, ?_⟩, hs⟩
  · simp only [execOp, Instr.box, Sem.run_bind, run_newVar, Result.andThen_ok, Sem.run_pure]
  · have := Cells.new (w := w) (SV.Rs.im.1 h1) h2 (by simpa using hs.le)
    simpa using this
theorem opn_makeFunc {f : FuncId} {caps : List Operand} {l : List IV} (hx : Evs σ caps l) : OpN C ⟨d, .makeFunc (.func f) #[] caps.toArray, ty, pos, after, gu⟩ σ (.im (IV.fn f l)) := OpN.pure fun ρ μ a w hl ha => by
  have h5 := hx.at hl (fun x hx => by simp [Op.operands, hx])
  exact ⟨_, by simp [execOp, Instr.makeFunc], R_im.2 ⟨_, rfl, h5⟩⟩

/- a struct's or a row's parts -/
def ovr : List SV → Nat → List SV → List SV
  | l, _, [] => l
  | l, o, c :: cs => ovr (l.set o c) (o + 1) cs
theorem ovr_length : ∀ (cs l : List SV) (o : Nat), (ovr l o cs).length = l.length
  | [], _, _ => rfl
  | c :: cs, l, o => by unfold ovr; rw [ovr_length cs]; simp
theorem foldl_set {ρ : Nms} {μ : Mem} (off : Nat) : ∀ (vs : List Value) (k : Nat) (us : Array Value) (l cs : List SV), SV.Rs ρ μ l us.toList → SV.Rs ρ μ cs vs → One us.toList → One vs →
    SV.Rs ρ μ (ovr l (off + k) cs) ((vs.zipIdx k).foldl (fun us p => us.setIfInBounds (off + p.2) p.1) us).toList ∧ One ((vs.zipIdx k).foldl (fun us p => us.setIfInBounds (off + p.2) p.1) us).toList
  | [], k, us, l, cs, h, hc, o1, o2 => by
    cases cs with
    | nil => exact ⟨h, o1⟩
    | cons c cs => unfold SV.Rs at hc; obtain ⟨v, vs', e, _⟩ := hc; cases e
  | v :: vs, k, us, l, cs, h, hc, o1, o2 => by
    cases cs with
    | nil => unfold SV.Rs at hc; cases hc
    | cons c cs =>
      unfold SV.Rs at hc
      obtain ⟨v', vs', e, h1, h2⟩ := hc
      injection e with e1 e2
      subst e1 e2
      simp only [List.zipIdx_cons, List.foldl_cons]
      unfold ovr
      refine foldl_set off vs (k + 1) _ _ _ ?_ h2 ?_ (fun u hu => o2 u (List.mem_cons_of_mem _ hu))
      · rw [Array.toList_setIfInBounds]; exact SV.Rs.set h1 h (off + k)
      · rw [Array.toList_setIfInBounds]
        intro u hu
        rcases List.mem_or_eq_of_mem_set hu with hu | hu
        · exact o1 u hu
        · subst hu; exact o2 u List.mem_cons_self
/- the parts, each with its place and its cells -/
inductive Parts (σ : Env) (place : Nat → Option (Nat × Nat)) : List SV → List (Nat × Operand) → List SV → Prop
  | nil {l : List SV} : Parts σ place l [] l
  | cons {l cs out : List SV} {i off n : Nat} {x : Operand} {s : SV} {rest : List (Nat × Operand)} (hp : place i = some (off, n)) (hx : Ev σ x s) (hc : Cs s cs) (hn : Nat.beq cs.length n = true) (hle : Nat.ble (off + n) l.length = true) (t : Parts σ place (ovr l off cs) rest out) : Parts σ place l ((i, x) :: rest) out
theorem Parts.fill {place : Nat → Option (Nat × Nat)} {ρ : Nms} {μ : Mem} {a : Act} : ∀ {l out : List SV} {ps : List (Nat × Operand)}, Parts σ place l ps out → (∀ p ∈ ps, ∀ s, Ev σ p.2 s → SV.R ρ μ s (a.eval p.2)) → ∀ {us : Array Value}, SV.Rs ρ μ l us.toList → One us.toList →
    ∃ us', Instr.fill place us (ps.map fun p => (p.1, a.eval p.2)) = some us' ∧ SV.Rs ρ μ out us'.toList ∧ One us'.toList := by
  intro l out ps h
  induction h with
  | nil => intro _ us h1 h2; exact ⟨us, rfl, h1, h2⟩
  | @cons l cs out i off n x s rest hp hx hc hn hle t ih =>
    intro hev us h1 h2
    obtain ⟨h3, h4⟩ := hc ρ μ _ (hev (i, x) List.mem_cons_self s hx)
    have hlen : (a.eval x).cells.size = n := by
      have := h3.length
      rw [Nat.eq_of_beq_eq_true hn] at this
      simpa using this
    have husz : us.size = l.length := by simpa using h1.length
    have hle' := Nat.le_of_ble_eq_true hle
    have h5 := foldl_set off (a.eval x).cells.toList 0 us l cs h1 h3 h2 h4
    obtain ⟨us', h6, h7⟩ := ih (fun p hp => hev p (List.mem_cons_of_mem _ hp)) h5.1 h5.2
    refine ⟨us', ?_, h7⟩
    simp only [List.map_cons, Instr.fill, hp]
    rw [if_neg (by simp only [hlen, husz, Bool.or_eq_true, decide_eq_true_eq, ne_eq, bne_self_eq_false, not_true_eq_false, false_or]; omega)]
    rw [← h6]
    congr 1
    have : (a.eval x).cells.zipIdx = ((a.eval x).cells.toList.zipIdx 0).toArray := by
      apply Array.ext'
      simp
    rw [this]
    simp
def zeroS (u : Value) : List SV := u.cells.toList.map fun c => .im (IV.val c)
theorem zeroS_R {ρ : Nms} {μ : Mem} : ∀ (l : List Value), SV.Rs ρ μ (l.map fun c => .im (IV.val c)) l
  | [] => by unfold SV.Rs; rfl
  | v :: l => by simp only [List.map_cons]; unfold SV.Rs; exact ⟨v, l, rfl, R_im.2 rfl, zeroS_R l⟩
def oneB (l : List Value) : Bool := l.all (·.oneCell')
theorem oneB_one {l : List Value} (h : oneB l = true) : One l := fun u hu => List.all_eq_true.1 h u hu
/- a struct's fields: place and size -/
def flds (C : Cfg) (fs : Array Field) (i : Nat) : Option (Nat × Nat) := match fs[i]? with
  | some fd => match C.tt fd.type with
    | some df => some (fd.offset, df.size)
    | none => none
  | none => none
def allF (C : Cfg) (fs : Array Field) : Bool := fs.toList.all fun fd => (C.tt fd.type).isSome
theorem run_places {fs : Array Field} (h : allF C fs = true) (w : World) : ∃ pl : Array (Nat × Nat), (fs.mapM (m := Sem) fun (f : Field) => do pure (f.offset, ← sizeOf f.type)).run C.P w = .ok pl w ∧ ∀ i : Nat, pl[i]? = flds C fs i := by
  have key : ∀ (l : List Field), (∀ fd ∈ l, (C.tt fd.type).isSome = true) → ∀ w : World, ∃ pl : List (Nat × Nat), (l.mapM (m := Sem) fun (f : Field) => do pure (f.offset, ← sizeOf f.type)).run C.P w = .ok pl w ∧ ∀ i : Nat, pl[i]? = match (l[i]? : Option Field) with
      | some fd => match C.tt fd.type with
        | some df => some (fd.offset, df.size)
        | none => none
      | none => none := by
    intro l
    induction l with
    | nil => intro _ w; exact ⟨[], by simp, by simp⟩
    | cons fd l ih =>
      intro h w
      obtain ⟨pl, h1, h2⟩ := ih (fun x hx => h x (List.mem_cons_of_mem _ hx)) w
      have h3 := h fd List.mem_cons_self
      cases h4 : C.tt fd.type with
      | none => rw [h4] at h3; cases h3
      | some df =>
        refine ⟨(fd.offset, df.size) :: pl, ?_, ?_⟩
        · simp only [List.mapM_cons, Sem.run_bind, Sem.run_pure, (C.ok _ _ h4).size w, Result.andThen_ok, h1]
        · intro i
          cases i with
          | zero => simp [h4]
          | succ i => simpa using h2 i
  obtain ⟨pl, h1, h2⟩ := key fs.toList (fun fd hfd => List.all_eq_true.1 h fd hfd) w
  refine ⟨pl.toArray, ?_, fun i => ?_⟩
  · rw [← Array.toArray_toList (xs := fs), List.mapM_toArray]
    simp at h1 ⊢
    rw [h1]; rfl
  · unfold flds
    rw [List.getElem?_toArray, h2 i]
    simp
theorem opn_build {t : TypeId} {dt : TyInf} {fs : Array Field} {ps : List (Nat × Operand)} {out : List SV} (ht : C.tt t = some dt) (hu : dt.und = .struct fs) (hf : allF C fs = true) (h1 : oneB dt.zero.cells.toList = true) (hp : Parts σ (flds C fs) (zeroS dt.zero) ps out) :
    OpN C ⟨d, .build t ps.toArray, ty, pos, after, gu⟩ σ (.agg out) := OpN.pure fun ρ μ a w hl ha => by
  have hT := C.ok _ _ ht
  obtain ⟨pl, h2, h3⟩ := run_places hf w
  have hev : ∀ p ∈ ps, ∀ s, Ev σ p.2 s → SV.R ρ μ s (a.eval p.2) := fun p hp s hs => hs.at hl (by simp [Op.operands]; exact ⟨p.1, hp⟩)
  obtain ⟨us, h4, h5, h6⟩ := hp.fill (ρ := ρ) (μ := μ) (a := a) hev (zeroS_R _) (oneB_one h1)
  have h7 : (fun x : Nat => pl[x]?) = flds C fs := funext h3
  refine ⟨.agg us, ?_, by unfold SV.R; exact ⟨us.toList, by simp, h5, h6⟩⟩
  have h8 := hT.und w
  rw [hu] at h8
  simp only [execOp, Instr.build, Sem.run_bind, hT.zero w, Result.andThen_ok, h8, h2, h7]
  simp [h4]
end
end Go.Proofs.Ytjgmbgfcffnanac
