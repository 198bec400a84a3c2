/- Negation, equality of structs, calls that hand back a row of their own. No program. -/
import Derived.Test.YtjgmbgfcffnanacLog10
import Derived.Laws.StructEq
namespace Go.Proofs.Ytjgmbgfcffnanac
open Go.RowKit

section
variable {C : Cfg} {σ : Env} {H : List Ent} {fr : Nat} {d : Option Tmp} {ty : TypeId} {pos : String} {after : Array Edge} {gu : Option (Nat × Bool)}
theorem opn_neg {t : TypeId} {x : Operand} {a : Int} (hx : Ev σ x (.im (IV.int a))) (h0 : -9223372036854775807 ≤ a) (h1 : a ≤ 9223372036854775807) : OpN C ⟨d, .unOp .neg t x, ty, pos, after, gu⟩ σ (.im (IV.int (-a))) := OpN.pure fun ρ μ ac w hl ha => by
  have h2 := hx.val hl (by simp [Op.operands])
  refine ⟨.int .i64 (-a), ?_, R_im.2 rfl⟩
  have hw : wrap64 (-a) = -a := by unfold wrap64; omega
  simp [execOp, h2, Op.unary, Op.intArith, wrap_i64, hw]
theorem vals_of {μ : Mem} : ∀ {us vs : List Value}, IVs μ (us.map IV.val) vs → vs = us
  | [], _, h => h
  | u :: us, _, ⟨v, vs', e, h1, h2⟩ => by subst e; rw [show v = u from h1, vals_of h2]
theorem opn_eqS {op : BinOp} {t t' : TypeId} {x y : Operand} {us vs : List Value} {b : Bool} (hx : Ev σ x (.im (IV.agg (us.map IV.val)))) (hy : Ev σ y (.im (IV.agg (vs.map IV.val))))
    (h : ∀ w, (do eqGuard op t x y (.agg us.toArray) (.agg vs.toArray); binOp op t (.agg us.toArray) (.agg vs.toArray) : Sem Value).run C.P w = .ok (.bool b) w) : OpN C ⟨d, .binOp op t x y t', ty, pos, after, gu⟩ σ (.im (IV.bool b)) := OpN.pure fun ρ μ ac w hl ha => by
  obtain ⟨l1, h1, h2, _⟩ := hx.im hl (by simp [Op.operands])
  obtain ⟨l2, h3, h4, _⟩ := hy.im hl (by simp [Op.operands])
  rw [vals_of h2] at h1
  rw [vals_of h4] at h3
  have hw := h w
  refine ⟨_, ?_, R_im.2 rfl⟩
  simp only [Sem.run_bind] at hw
  simp only [execOp, h1, h3, Sem.run_bind]
  cases hg : (eqGuard op t x y (.agg us.toArray) (.agg vs.toArray)).run C.P w with
  | ok u w1 =>
    rw [hg] at hw
    simp only [Result.andThen_ok] at hw ⊢
    rw [hw]; rfl
  | halt a b => rw [hg] at hw; cases hw

def FnRow (C : Cfg) (f : FuncId) (args : List IV) (t k : Nat) {α : Type} (enc : α → List IV) (xs : List α) : Prop :=
  ((∃ fn, C.P.funcs[f]? = some fn ∧ fn.body.isNone = false ∧ (fn.name == "runtime.NumGoroutine") = false) ∧ ∀ x, (enc x).length = k) ∧
  ∀ μ w vs, IVs μ args vs → Agr μ w → Calls C.P f vs.toArray w fun e w' => ∃ v μ' us, e = .returned v ∧ w'.ownsRow w.heap.size t k v xs.length us ∧ IvFlat μ' enc xs us ∧ One us ∧ (∀ g, v.ownBlock = some g → μ' g = none) ∧ Stp μ w μ' w'
theorem opa_callRow {f : FuncId} {xs : List Operand} {tys : Array TypeId} {args : List IV} {t k : Nat} {α : Type} {enc : α → List IV} {ys : List α} (hf : FnRow C f args t k enc ys) (hx : Evs σ xs args) : OpA C ⟨d, .call { callee := .value (.func f), args := xs.toArray, argTypes := tys }, ty, pos, after, gu⟩ σ fr (.row fr ys.length) (.row t k enc ys) := fun ρ μ a w hl ha hfr => by
  obtain ⟨⟨⟨fn, h1, h2, h3⟩, hk⟩, h4⟩ := hf
  have h5 := hx.at hl (fun x hx => by simp [Op.operands, Call.operands, hx])
  have h6 : (execOp a.eval ⟨d, .call { callee := .value (.func f), args := xs.toArray, argTypes := tys }, ty, pos, after, gu⟩).run C.P w = .ok (.enter f (xs.map a.eval).toArray) w := by
    simp [execOp, resolve, Act.eval, Deferred.ofValue, invoke, run_callFunc h1 h2 h3]
  unfold Oper.wp
  rw [h6]
  refine Calls.mono (h4 μ w _ h5 ha) ?_
  rintro e w' ⟨v, μ', us, rfl, h7, h8, h9, h10, h11⟩
  refine ⟨v, μ', rfl, ?_, ⟨v, us, upd_at _ _ _, ⟨h7.1, h7.2.imp id (fun ⟨g, cap, cur, e, _, r⟩ => ⟨g, cap, cur, e, Nat.zero_le _, r⟩)⟩, h8, hk, h10, h9⟩, fun g hg => ?_, h11⟩
  · unfold SV.R
    refine ⟨upd_at _ _ _, ?_⟩
    rcases h7.2 with ⟨rfl, hn⟩ | ⟨g, cap, cur, rfl, _⟩
    · exact ⟨none, 0, by rw [hn], .inl hn⟩
    · exact ⟨_, cap, rfl, .inr ⟨g, rfl⟩⟩
  · rw [ownsRow_blk h7] at hg
    exact (World.ownsRow.lt h7 g hg).1
end
end Go.Proofs.Ytjgmbgfcffnanac
