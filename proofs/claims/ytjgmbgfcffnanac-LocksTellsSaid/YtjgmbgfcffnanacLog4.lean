/- The logic's rules for operations that turn no memory. Over any program. No condition. -/
import Derived.Test.YtjgmbgfcffnanacLog3
import Derived.ChangeKeysEq
namespace Go.Proofs.Ytjgmbgfcffnanac
open Go.RowKit

theorem Cells.take {μ : Mem} {b o : Nat} {l : List IV} (k : Cells μ b o l) (n : Nat) : Cells μ b o (l.take n) := fun j s hj => by
  rw [List.getElem?_take] at hj
  split at hj
  · exact k j s hj
  · cases hj
theorem Cells.vals {μ : Mem} {w : World} (ha : Agr μ w) {b : Nat} : ∀ {l : List IV} {o : Nat}, Cells μ b o l → ∃ vs : List Value, IVs μ l vs ∧ (∀ j v, vs[j]? = some v → w.cell? ⟨b, o + j, none⟩ = some v) ∧ One vs
  | [], o, _ => ⟨[], rfl, fun j v h => by simp at h, fun u h => by simp at h⟩
  | s :: l, o, k => by
    obtain ⟨cs, v, h1, h2, h3, h9⟩ := k 0 s rfl
    obtain ⟨vs, h4, h5, h10⟩ := Cells.vals ha (l := l) (o := o + 1) (fun j s' hj => by
      obtain ⟨cs', v', h6, h7, h8⟩ := k (j + 1) s' (by simpa using hj)
      exact ⟨cs', v', h6, by rw [show o + 1 + j = o + (j + 1) by omega]; exact h7, h8⟩)
    refine ⟨v :: vs, ⟨v, vs, rfl, h3, h4⟩, fun j u hj => ?_, fun u hu => (List.mem_cons.1 hu).elim (fun e => e ▸ h9) (h10 u)⟩
    cases j with
    | zero =>
      simp at hj; subst hj
      obtain ⟨t, fz, hh⟩ := ha b cs h1
      simp only [World.cell?, hh]
      exact h2
    | succ j => rw [show o + (j + 1) = o + 1 + j by omega]; exact h5 j u (by simpa using hj)

theorem TyIs.size {P : Program} {t : TypeId} {d : TyInf} (h : TyIs P t d) (w : World) : (sizeOf t).run P w = .ok d.size w := by
  obtain ⟨_, i, h1, h2, h3, h4⟩ := h
  simp [sizeOf, typeInfo, h1, h3]
theorem TyIs.und {P : Program} {t : TypeId} {d : TyInf} (h : TyIs P t d) (w : World) : (underlying t).run P w = .ok d.und w := run_underlying h.1 w
theorem TyIs.zero {P : Program} {t : TypeId} {d : TyInf} (h : TyIs P t d) (w : World) : (zeroValue t).run P w = .ok d.zero w := by
  obtain ⟨_, i, h1, h2, h3, h4⟩ := h
  simp [zeroValue, typeInfo, h1, h2]
def aggB : TypeDesc → Bool
  | .struct _ => true
  | .array _ _ => true
  | _ => false
theorem TyIs.agg {P : Program} {t : TypeId} {d : TyInf} (h : TyIs P t d) (w : World) : (isAgg t).run P w = .ok (aggB d.und) w := by
  unfold isAgg
  rw [Sem.run_bind, h.und w]
  simp only [Result.andThen_ok]
  cases d.und <;> rfl

/- an operand's value -/
def ev (σ : Env) : Operand → Option SV
  | .tmp t => lk σ t
  | .const v => some (.im (IV.val v))
  | .func f => some (.im (IV.fn f []))
  | .global _ => none
def Ev (σ : Env) (x : Operand) (s : SV) : Prop := ∃ s0, ev σ x = some s0 ∧ ∀ ρ μ v, SV.R ρ μ s0 v → SV.R ρ μ s v
theorem Ev.base {σ : Env} {x : Operand} {s : SV} (h : ev σ x = some s) : Ev σ x s := ⟨s, h, fun _ _ _ h => h⟩
theorem Ev.cnd {σ : Env} {x : Operand} {b : Bool} {s : SV} (h : ev σ x = some (.cnd b s)) (hb : b = true) : Ev σ x s := ⟨_, h, fun _ _ _ h => by unfold SV.R at h; exact h.1 hb⟩
theorem Ev.is {σ : Env} {x : Operand} {u : Value} {s : SV} (h : ev σ x = some (.is u s)) : Ev σ x s := ⟨_, h, fun _ _ _ h => by unfold SV.R at h; exact h.2⟩
theorem Ev.to {σ : Env} {x : Operand} {s s' : SV} (h : Ev σ x s) (k : ∀ ρ μ v, SV.R ρ μ s v → SV.R ρ μ s' v) : Ev σ x s' := by
  obtain ⟨s0, h1, h2⟩ := h
  exact ⟨s0, h1, fun ρ μ v h3 => k ρ μ v (h2 ρ μ v h3)⟩
theorem Ev.at {σ : Env} {x : Operand} {s : SV} (h : Ev σ x s) {ρ : Nms} {μ : Mem} {o : Oper} {a : Act} (hl : LookOk ρ μ σ o a) (hx : x ∈ o.op.operands.toList) : SV.R ρ μ s (a.eval x) := by
  obtain ⟨s0, h1, h2⟩ := h
  apply h2
  cases x with
  | tmp t => exact hl t (by unfold looks; rw [List.mem_filterMap]; exact ⟨.tmp t, hx, rfl⟩) s0 h1
  | const v =>
    simp only [ev, Option.some.injEq] at h1; subst h1
    unfold SV.R; exact (rfl : a.eval (.const v) = v)
  | func f =>
    simp only [ev, Option.some.injEq] at h1; subst h1
    unfold SV.R
    exact ⟨[], rfl, rfl⟩
  | global g => cases h1
theorem R_im {ρ : Nms} {μ : Mem} {s : IV} {v : Value} : SV.R ρ μ (.im s) v ↔ s.p μ v := by unfold SV.R; exact Iff.rfl
theorem Ev.val {σ : Env} {x : Operand} {u : Value} (h : Ev σ x (.im (IV.val u))) {ρ : Nms} {μ : Mem} {o : Oper} {a : Act} (hl : LookOk ρ μ σ o a) (hx : x ∈ o.op.operands.toList) : a.eval x = u := R_im.1 (h.at hl hx)
theorem Ev.im {σ : Env} {x : Operand} {s : IV} (h : Ev σ x (.im s)) {ρ : Nms} {μ : Mem} {o : Oper} {a : Act} (hl : LookOk ρ μ σ o a) (hx : x ∈ o.op.operands.toList) : s.p μ (a.eval x) := R_im.1 (h.at hl hx)

section
variable {C : Cfg} {σ : Env}
theorem OpN.run {o : Oper} {s : SV} (h : ∀ ρ μ a w, LookOk ρ μ σ o a → Agr μ w → ∃ v μ' w', (execOp a.eval o).run C.P w = .ok (.value v) w' ∧ SV.R ρ μ' s v ∧ Stp μ w μ' w') : OpN C o σ s := fun ρ μ a w hl ha => by
  obtain ⟨v, μ', w', h1, h2, h3⟩ := h ρ μ a w hl ha
  unfold Oper.wp
  rw [h1]
  exact ⟨v, μ', rfl, h2, h3⟩
theorem OpN.pure {o : Oper} {s : SV} (h : ∀ ρ μ a w, LookOk ρ μ σ o a → Agr μ w → ∃ v, (execOp a.eval o).run C.P w = .ok (.value v) w ∧ SV.R ρ μ s v) : OpN C o σ s := OpN.run fun ρ μ a w hl ha => by
  obtain ⟨v, h1, h2⟩ := h ρ μ a w hl ha
  exact ⟨v, μ, w, h1, h2, Stp.refl ha⟩

variable {d : Option Tmp} {ty : TypeId} {pos : String} {after : Array Edge} {gu : Option (Nat × Bool)}

theorem opn_move {x : Operand} {s : SV} (hx : Ev σ x s) : OpN C ⟨d, .move x, ty, pos, after, gu⟩ σ s := OpN.pure fun ρ μ a w hl ha => ⟨_, rfl, hx.at hl (by simp [Op.operands])⟩
theorem opn_assign {x : Operand} {s : SV} (hx : Ev σ x s) : OpN C ⟨d, .assign x, ty, pos, after, gu⟩ σ s := OpN.pure fun ρ μ a w hl ha => ⟨_, rfl, hx.at hl (by simp [Op.operands])⟩

/- loads from memory that never changes -/
def ldI (dt : TyInf) (l : List IV) : Option SV := match aggB dt.und with
  | true => match Nat.ble dt.size l.length with
    | true => some (.agg ((l.take dt.size).map SV.im))
    | false => none
  | false => match l with
    | s :: _ => some (.im s)
    | [] => none
theorem run_load_ptr {ρ : Nms} {μ : Mem} {w : World} (ha : Agr μ w) {t : TypeId} {dt : TyInf} (ht : TyIs C.P t dt) {l : List IV} {s : SV} (hs : ldI dt l = some s) {u : Value} (hu : (IV.ptr l).p μ u) :
    ∃ v, (Instr.loadAt t u).run C.P w = .ok v w ∧ SV.R ρ μ s v := by
  obtain ⟨b, o, rfl, hc⟩ := hu
  unfold ldI at hs
  cases hag : aggB dt.und with
  | true =>
    rw [hag] at hs
    simp only at hs
    cases hb : Nat.ble dt.size l.length with
    | false => rw [hb] at hs; cases hs
    | true =>
      rw [hb] at hs
      injection hs with hs
      subst hs
      have hle := Nat.le_of_ble_eq_true hb
      obtain ⟨vs, h1, h2, h9⟩ := (hc.take dt.size).vals ha
      have hlen : vs.length = dt.size := by rw [h1.length, List.length_take]; omega
      have h3 := run_loadCells_list (P := C.P) w ⟨b, o, none⟩ vs (fun j v hj => by
        have := h2 j v hj
        by_cases h0 : j = 0 <;> simp [Addr.add, h0] <;> simpa [h0] using this)
      rw [hlen] at h3
      refine ⟨.agg vs.toArray, ?_, ?_⟩
      · simp only [Instr.loadAt, Instr.sureAddr, loadVar, Sem.run_bind, Sem.run_pure, Result.andThen_ok, ht.agg w, hag, if_true, ht.size w, h3]
      · unfold SV.R; exact ⟨vs, rfl, SV.Rs.im.2 h1, h9⟩
  | false =>
    rw [hag] at hs
    simp only at hs
    cases l with
    | nil => cases hs
    | cons s0 l =>
      injection hs with hs
      subst hs
      obtain ⟨cs, v, h1, h2, h3, _⟩ := hc 0 s0 rfl
      obtain ⟨t', fz, hh⟩ := ha b cs h1
      have hcell : w.cell? ⟨b, o, none⟩ = some v := by simp only [World.cell?, hh]; exact h2
      refine ⟨v, ?_, R_im.2 h3⟩
      simp only [Instr.loadAt, Instr.sureAddr, loadVar, Sem.run_bind, Sem.run_pure, Result.andThen_ok, ht.agg w, hag, if_false, Bool.false_eq_true, run_load, hcell]
theorem opn_load {t : TypeId} {x : Operand} {dt : TyInf} {l : List IV} {s : SV} (ht : C.tt t = some dt) (hx : Ev σ x (.im (IV.ptr l))) (hs : ldI dt l = some s) : OpN C ⟨d, .load t x, ty, pos, after, gu⟩ σ s := OpN.pure fun ρ μ a w hl ha => by
  obtain ⟨v, h1, h2⟩ := run_load_ptr (ρ := ρ) ha (C.ok _ _ ht) hs (hx.im hl (by simp [Op.operands]))
  refine ⟨v, ?_, h2⟩
  simp only [execOp, Sem.run_bind, h1, Result.andThen_ok, Sem.run_pure]

/- the place of a field -/
def fld (C : Cfg) (t : TypeId) (f : Nat) : Option Nat := match C.tt t with
  | some dt => match dt.und with
    | .struct fs => match fs[f]? with
      | some fd => match C.tt fd.type with
        | some df => match df.size with
          | 0 => none
          | _ + 1 => some fd.offset
        | none => none
      | none => none
    | _ => none
  | none => none
theorem run_fieldAt {t : TypeId} {f o : Nat} (h : fld C t f = some o) (w : World) (b q : Nat) : (Instr.fieldAt t (.pointer (some ⟨b, q, none⟩)) f).run C.P w = .ok (.pointer (some ⟨b, q + o, none⟩)) w := by
  unfold fld at h
  cases h1 : C.tt t with
  | none => simp [h1] at h
  | some dt =>
    simp only [h1] at h
    have ht := C.ok _ _ h1
    cases h2 : dt.und with
    | struct fs =>
      simp only [h2] at h
      cases h3 : fs[f]? with
      | none => simp [h3] at h
      | some fd =>
        simp only [h3] at h
        cases h4 : C.tt fd.type with
        | none => simp [h4] at h
        | some df =>
          simp only [h4] at h
          cases h5 : df.size with
          | zero => simp [h5] at h
          | succ n =>
            simp only [h5, Option.some.injEq] at h
            subst h
            have h6 := (C.ok _ _ h4).size w
            have h7 := ht.und w
            rw [h2] at h7
            have h8 : (⟨b, q, none⟩ : Addr).add fd.offset = ⟨b, q + fd.offset, none⟩ := by by_cases h0 : fd.offset = 0 <;> simp [Addr.add, h0]
            simp [Instr.fieldAt, Instr.sureAddr, fieldPlace, Sem.run_bind, h7, h3, h6, h5, h8]
    | _ => simp [h2] at h
theorem opn_field {t : TypeId} {x : Operand} {f o : Nat} {l : List IV} (hf : fld C t f = some o) (hx : Ev σ x (.im (IV.ptr l))) : OpN C ⟨d, .fieldAddr t x f, ty, pos, after, gu⟩ σ (.im (IV.ptr (l.drop o))) := OpN.pure fun ρ μ a w hl ha => by
  obtain ⟨b, q, h1, h2⟩ := hx.im hl (by simp [Op.operands])
  refine ⟨_, ?_, R_im.2 ⟨b, q + o, rfl, h2.drop o⟩⟩
  simp only [execOp, Sem.run_bind, h1, run_fieldAt hf w b q, Result.andThen_ok, Sem.run_pure]
theorem opn_fieldOff {t : TypeId} {x : Operand} {f o i q : Nat} (hf : fld C t f = some o) (hx : Ev σ x (.off i q)) : OpN C ⟨d, .fieldAddr t x f, ty, pos, after, gu⟩ σ (.off i (q + o)) := OpN.pure fun ρ μ a w hl ha => by
  have h0 := hx.at hl (by simp [Op.operands])
  unfold SV.R at h0
  obtain ⟨g, h1, h2⟩ := h0
  refine ⟨_, ?_, by unfold SV.R; exact ⟨g, h1, rfl⟩⟩
  simp only [execOp, Sem.run_bind, h2, run_fieldAt hf w g q, Result.andThen_ok, Sem.run_pure]

/- the place of an element -/
def slE (C : Cfg) (t : TypeId) : Option Nat := match C.tt t with
  | some dt => match dt.und with
    | .slice e => match C.tt e with
      | some de => some de.size
      | none => none
    | _ => none
  | none => none
theorem slE_at {t : TypeId} {k : Nat} (h : slE C t = some k) : ∃ e de, C.P.underlying t = some (.slice e) ∧ TyIs C.P e de ∧ de.size = k := by
  unfold slE at h
  cases h1 : C.tt t with
  | none => simp [h1] at h
  | some dt =>
    simp only [h1] at h
    have ht := C.ok _ _ h1
    cases h2 : dt.und with
    | slice e =>
      simp only [h2] at h
      cases h3 : C.tt e with
      | none => simp [h3] at h
      | some de =>
        simp only [h3, Option.some.injEq] at h
        exact ⟨e, de, by rw [ht.1, h2], C.ok _ _ h3, h⟩
    | _ => simp [h2] at h
theorem run_indexAt {t : TypeId} {k : Nat} (h : slE C t = some k) (w : World) (b o n c : Nat) (i : Int) (kd : IntKind) (h0 : 0 ≤ i) (h1 : i < n) :
    (Instr.indexAt t (.slice (some ⟨b, o, none⟩) n c) (.int kd i)).run C.P w = .ok (.pointer (some ⟨b, o + i.toNat * k, none⟩)) w := by
  obtain ⟨e, de, h2, h3, rfl⟩ := slE_at h
  have h8 : (⟨b, o, none⟩ : Addr).add (i.toNat * de.size) = ⟨b, o + i.toNat * de.size, none⟩ := by by_cases h0 : i.toNat * de.size = 0 <;> simp [Addr.add, h0]
  simp [Instr.indexAt, asIntOf, Sem.run_bind, run_underlying h2, h0, h1, h3.size w, h8]
theorem opn_index {α : Type} {t : TypeId} {x ix : Operand} {k : Nat} {enc : α → List IV} {xs : List α} {i : Int} {y : α} (hk : slE C t = some k) (hx : Ev σ x (.im (IV.view k enc xs))) (hi : Ev σ ix (.im (IV.int i))) (h0 : 0 ≤ i) (hy : xs[i.toNat]? = some y) :
    OpN C ⟨d, .indexAddr t x ix, ty, pos, after, gu⟩ σ (.im (IV.ptr (enc y))) := OpN.pure fun ρ μ a w hl ha => by
  obtain ⟨A, c, h1, h2, h3, h4⟩ := hx.im hl (by simp [Op.operands])
  have h5 := hi.val hl (by simp [Op.operands])
  have hlt := (List.getElem?_eq_some_iff.1 hy).1
  rcases h4 with rfl | ⟨b, o, rfl, h6⟩
  · simp at hlt
  · refine ⟨_, ?_, R_im.2 ⟨b, _, rfl, h6 _ _ hy⟩⟩
    simp only [execOp, Sem.run_bind, h1, h5, run_indexAt hk w b o xs.length c i .i64 h0 (by omega), Result.andThen_ok, Sem.run_pure]
theorem opn_indexRow {t : TypeId} {x ix : Operand} {k r n : Nat} {i : Int} (hk : slE C t = some k) (hx : Ev σ x (.row r n)) (hi : Ev σ ix (.im (IV.int i))) (h0 : 0 ≤ i) (h1 : i < n) :
    OpN C ⟨d, .indexAddr t x ix, ty, pos, after, gu⟩ σ (.off r (i.toNat * k)) := OpN.pure fun ρ μ a w hl ha => by
  have h2 := hx.at hl (by simp [Op.operands])
  unfold SV.R at h2
  obtain ⟨h3, A, c, h4, h5⟩ := h2
  have h6 := hi.val hl (by simp [Op.operands])
  rcases h5 with rfl | ⟨g, rfl⟩
  · omega
  · refine ⟨_, ?_, by unfold SV.R; exact ⟨g, by rw [h3, h4]; rfl, rfl⟩⟩
    simp only [execOp, Sem.run_bind, h4, h6, run_indexAt hk w g 0 n c i .i64 h0 h1, Result.andThen_ok, Sem.run_pure, Nat.zero_add]

/- numbers -/
def arith : BinOp → Int → Int → Option Int
  | .add, a, b => some (wrap64 (a + b))
  | .sub, a, b => some (wrap64 (a - b))
  | .mul, a, b => some (wrap64 (a * b))
  | _, _, _ => none
def cmpI : BinOp → Int → Int → Option Bool
  | .eql, a, b => some (a == b)
  | .neq, a, b => some (a != b)
  | .lss, a, b => some (decide (a < b))
  | .leq, a, b => some (decide (a ≤ b))
  | .gtr, a, b => some (decide (a > b))
  | .geq, a, b => some (decide (a ≥ b))
  | _, _, _ => none
theorem wrap_i64 (n : Int) : IntKind.i64.wrap n = wrap64 n := by rw [IntKind.wrap_i64]; unfold wrap64; omega
theorem run_eqGuard_int (op : BinOp) (t : TypeId) (x y : Operand) (k k' : IntKind) (a b : Int) (w : World) : (eqGuard op t x y (.int k a) (.int k' b)).run C.P w = .ok () w := by
  unfold eqGuard; cases op <;> simp
theorem opn_arith {op : BinOp} {t t' : TypeId} {x y : Operand} {a b c : Int} (hx : Ev σ x (.im (IV.int a))) (hy : Ev σ y (.im (IV.int b))) (hc : arith op a b = some c) : OpN C ⟨d, .binOp op t x y t', ty, pos, after, gu⟩ σ (.im (IV.int c)) := OpN.pure fun ρ μ ac w hl ha => by
  have h1 := hx.val hl (by simp [Op.operands])
  have h2 := hy.val hl (by simp [Op.operands])
  refine ⟨_, ?_, R_im.2 rfl⟩
  cases op <;> simp [arith] at hc <;> subst hc <;> simp [execOp, h1, h2, run_eqGuard_int, binOp, Op.intArith, wrap_i64]
theorem opn_cmp {op : BinOp} {t t' : TypeId} {x y : Operand} {a b : Int} {c : Bool} (hx : Ev σ x (.im (IV.int a))) (hy : Ev σ y (.im (IV.int b))) (hc : cmpI op a b = some c) : OpN C ⟨d, .binOp op t x y t', ty, pos, after, gu⟩ σ (.im (IV.bool c)) := OpN.pure fun ρ μ ac w hl ha => by
  have h1 := hx.val hl (by simp [Op.operands])
  have h2 := hy.val hl (by simp [Op.operands])
  refine ⟨_, ?_, R_im.2 rfl⟩
  cases op <;> simp [cmpI] at hc <;> subst hc <;> simp [execOp, h1, h2, run_eqGuard_int, binOp, Op.intCmp]
theorem arith_in {op : BinOp} {a b c : Int} (h : arith op a b = some (wrap64 c)) (h1 : -9223372036854775808 ≤ c) (h2 : c ≤ 9223372036854775807) : arith op a b = some c := by
  rw [h]; congr 1; unfold wrap64; omega
theorem opn_not {t : TypeId} {x : Operand} {b : Bool} (hx : Ev σ x (.im (IV.bool b))) : OpN C ⟨d, .unOp .not t x, ty, pos, after, gu⟩ σ (.im (IV.bool (!b))) := OpN.pure fun ρ μ a w hl ha => by
  have h1 := hx.val hl (by simp [Op.operands])
  refine ⟨_, ?_, R_im.2 rfl⟩
  simp [execOp, h1, Op.unary]
theorem opn_pick_and {c x y : Operand} {b b' g : Bool} (hc : Ev σ c (.im (IV.bool b))) (hx : ev σ x = some (.cnd g (.im (IV.bool b')))) (hg : b = true → g = true) (hy : ev σ y = some (.im (IV.bool false))) : OpN C ⟨d, .pick c x y, ty, pos, after, gu⟩ σ (.im (IV.bool (b && b'))) := OpN.pure fun ρ μ a w hl ha => by
  have h1 := hc.val hl (by simp [Op.operands])
  have h2 := (Ev.base hx).at hl (by simp [Op.operands])
  have h3 := (Ev.base hy).val hl (by simp [Op.operands])
  refine ⟨_, by simp [execOp, h1, asBool]; rfl, R_im.2 ?_⟩
  cases b with
  | true =>
    unfold SV.R at h2
    have h4 := R_im.1 (h2.1 (hg rfl))
    exact h4
  | false => exact h3
theorem opn_pick_or {c x y : Operand} {b b' g : Bool} (hc : Ev σ c (.im (IV.bool b))) (hx : ev σ x = some (.im (IV.bool true))) (hy : ev σ y = some (.cnd g (.im (IV.bool b')))) (hg : b = false → g = true) : OpN C ⟨d, .pick c x y, ty, pos, after, gu⟩ σ (.im (IV.bool (b || b'))) := OpN.pure fun ρ μ a w hl ha => by
  have h1 := hc.val hl (by simp [Op.operands])
  have h2 := (Ev.base hx).val hl (by simp [Op.operands])
  have h3 := (Ev.base hy).at hl (by simp [Op.operands])
  refine ⟨_, by simp [execOp, h1, asBool]; rfl, R_im.2 ?_⟩
  cases b with
  | true => exact h2
  | false =>
    unfold SV.R at h3
    exact R_im.1 (h3.1 (hg rfl))
theorem opn_extract {x : Operand} {l : List IV} {i : Nat} {s : IV} (hx : Ev σ x (.im (IV.tup l))) (hs : l[i]? = some s) : OpN C ⟨d, .extract x i, ty, pos, after, gu⟩ σ (.im s) := OpN.pure fun ρ μ a w hl ha => by
  obtain ⟨vs, h1, h2⟩ := hx.im hl (by simp [Op.operands])
  obtain ⟨v, h3, h4⟩ := h2.get hs
  refine ⟨v, ?_, R_im.2 h4⟩
  simp [execOp, h1, Instr.extract, h3]

/- len -/
theorem opn_len {α : Type} {t : TypeId} {x : Operand} {k k' : Nat} {enc : α → List IV} {xs : List α} (hk : slE C t = some k') (hx : Ev σ x (.im (IV.view k enc xs))) : OpN C ⟨d, .call { callee := .builtin .len, args := #[x], argTypes := #[t] }, ty, pos, after, gu⟩ σ (.im (IV.int xs.length)) := OpN.pure fun ρ μ a w hl ha => by
  obtain ⟨A, c, h1, _⟩ := hx.im hl (by simp [Op.operands, Call.operands])
  obtain ⟨e, de, h9, _, _⟩ := slE_at hk
  refine ⟨_, ?_, R_im.2 rfl⟩
  simp [execOp, resolve, invoke, builtin, h1, Builtin.len_, goInt, run_underlying h9]
theorem opn_lenRow {t : TypeId} {x : Operand} {r n k' : Nat} (hk : slE C t = some k') (hx : Ev σ x (.row r n)) : OpN C ⟨d, .call { callee := .builtin .len, args := #[x], argTypes := #[t] }, ty, pos, after, gu⟩ σ (.im (IV.int n)) := OpN.pure fun ρ μ a w hl ha => by
  have h2 := hx.at hl (by simp [Op.operands, Call.operands])
  unfold SV.R at h2
  obtain ⟨h3, A, c, h4, h5⟩ := h2
  obtain ⟨e, de, h9, _, _⟩ := slE_at hk
  refine ⟨_, ?_, R_im.2 rfl⟩
  simp [execOp, resolve, invoke, builtin, h4, Builtin.len_, goInt, run_underlying h9]

/- calls -/
theorem run_callFunc {f : FuncId} {args : Array Value} {fn : Func} (h1 : C.P.funcs[f]? = some fn) (h2 : fn.body.isNone = false) (h3 : (fn.name == "runtime.NumGoroutine") = false) (w : World) : (callFunc f args).run C.P w = .ok (.enter f args) w := by
  have hp : (Sem.program Sem.pure).run C.P w = .ok C.P w := rfl
  unfold callFunc program
  rw [Sem.run_bind, hp]
  simp only [Result.andThen_ok, h1, h3, h2, Bool.false_eq_true, if_false]
  rfl
def Fn (C : Cfg) (f : FuncId) (args : List IV) (s : IV) : Prop :=
  (∃ fn, C.P.funcs[f]? = some fn ∧ fn.body.isNone = false ∧ (fn.name == "runtime.NumGoroutine") = false) ∧
  ∀ μ w vs, IVs μ args vs → Agr μ w → Calls C.P f vs.toArray w fun e w' => ∃ v μ', e = .returned v ∧ s.p μ' v ∧ Stp μ w μ' w'
def Evs (σ : Env) : List Operand → List IV → Prop
  | [], l => l = []
  | x :: xs, l => ∃ s l', l = s :: l' ∧ Ev σ x (.im s) ∧ Evs σ xs l'
theorem Evs.nil {σ : Env} : Evs σ [] [] := rfl
theorem Evs.cons {σ : Env} {x : Operand} {xs : List Operand} {s : IV} {l : List IV} (h : Ev σ x (.im s)) (t : Evs σ xs l) : Evs σ (x :: xs) (s :: l) := ⟨s, l, rfl, h, t⟩
theorem Evs.at {ρ : Nms} {μ : Mem} {o : Oper} {a : Act} (hl : LookOk ρ μ σ o a) : ∀ {xs : List Operand} {l : List IV}, Evs σ xs l → (∀ x ∈ xs, x ∈ o.op.operands.toList) → IVs μ l (xs.map a.eval)
  | [], _, h, _ => by cases h; exact rfl
  | x :: xs, _, ⟨s, l', e, h1, h2⟩, hm => by subst e; exact ⟨_, _, rfl, h1.im hl (hm x List.mem_cons_self), Evs.at hl h2 fun y hy => hm y (List.mem_cons_of_mem _ hy)⟩
theorem opn_call {f : FuncId} {xs : List Operand} {tys : Array TypeId} {args : List IV} {s : IV} (hf : Fn C f args s) (hx : Evs σ xs args) : OpN C ⟨d, .call { callee := .value (.func f), args := xs.toArray, argTypes := tys }, ty, pos, after, gu⟩ σ (.im s) := fun ρ μ a w hl ha => by
  obtain ⟨⟨fn, h1, h2, h3⟩, h4⟩ := hf
  have h5 := hx.at hl (fun x hx => by simp [Op.operands, Call.operands, hx])
  have h6 : (execOp a.eval ⟨d, .call { callee := .value (.func f), args := xs.toArray, argTypes := tys }, ty, pos, after, gu⟩).run C.P w = .ok (.enter f (xs.map a.eval).toArray) w := by
    simp [execOp, resolve, Act.eval, Deferred.ofValue, invoke, run_callFunc h1 h2 h3]
  unfold Oper.wp
  rw [h6]
  refine Calls.mono (h4 μ w _ h5 ha) ?_
  rintro e w' ⟨v, μ', rfl, h7, h8⟩
  exact ⟨v, μ', rfl, R_im.2 h7, h8⟩
theorem opn_callFn {f : FuncId} {x : Operand} {xs : List Operand} {tys : Array TypeId} {args caps : List IV} {s : IV} (hv : Ev σ x (.im (IV.fn f caps))) (hf : Fn C f (args ++ caps) s) (hx : Evs σ xs args) : OpN C ⟨d, .call { callee := .value x, args := xs.toArray, argTypes := tys }, ty, pos, after, gu⟩ σ (.im s) := fun ρ μ a w hl ha => by
  obtain ⟨⟨fn, h1, h2, h3⟩, h4⟩ := hf
  obtain ⟨cs, h9, h10⟩ := hv.im hl (by simp [Op.operands, Call.operands])
  have h5 := hx.at hl (fun x hx => by simp [Op.operands, Call.operands, hx])
  have h6 : (execOp a.eval ⟨d, .call { callee := .value x, args := xs.toArray, argTypes := tys }, ty, pos, after, gu⟩).run C.P w = .ok (.enter f (xs.map a.eval ++ cs).toArray) w := by
    simp [execOp, resolve, h9, Deferred.ofValue, invoke, run_callFunc h1 h2 h3]
  have h11 : ∀ {l l' : List IV} {vs vs' : List Value}, IVs μ l vs → IVs μ l' vs' → IVs μ (l ++ l') (vs ++ vs') := by
    intro l
    induction l with
    | nil => intro l' vs vs' h h'; cases h; exact h'
    | cons s0 l ih => rintro l' vs vs' ⟨v, vs2, rfl, h1, h2⟩ h'; exact ⟨v, _, rfl, h1, ih h2 h'⟩
  unfold Oper.wp
  rw [h6]
  refine Calls.mono (h4 μ w _ (h11 h5 h10) ha) ?_
  rintro e w' ⟨v, μ', rfl, h7, h8⟩
  exact ⟨v, μ', rfl, R_im.2 h7, h8⟩
end
end Go.Proofs.Ytjgmbgfcffnanac
