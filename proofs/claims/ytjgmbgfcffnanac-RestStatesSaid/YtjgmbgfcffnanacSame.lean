/- Equality of structs; SameTxns. -/
import Derived.Test.YtjgmbgfcffnanacSl
namespace Go.Proofs.Ytjgmbgfcffnanac
open Go.RowKit

def gVals (g : Guard) : List Value := [.int .i64 g.kind, .int .i64 g.a.kind, .int .i64 g.a.n, .int .i64 g.b.kind, .int .i64 g.b.n]
def sVals (s : SetT) : List Value := [.int .i64 s.key, .int .i64 s.op, .int .i64 s.a.kind, .int .i64 s.a.n, .int .i64 s.b.kind, .int .i64 s.b.n]

theorem eqIn_operand (d : Nat) (a b a' b' : Int) (w : World) : (Op.equalIn (d + 2) 87 (.agg #[.int .i64 a, .int .i64 b]) (.agg #[.int .i64 a', .int .i64 b'])).run Try.prog w = .ok (decide (a = a' ∧ b = b')) w := by
  rw [run_equalIn_struct w (d + 1) _ _ _ (by simp only [Program.fieldsOf, Try.underlying87]) (by kernel_rfl)]
  simp [Program.fieldsOf, Try.underlying87, Op.eqFields, go_sem]
  by_cases h1 : a = a' <;> by_cases h2 : b = b' <;> simp [h1, h2]
theorem eq_guard (x y : Go.Operand) (g g' : Guard) (w : World) : (do eqGuard .neq 89 x y (.agg (gVals g).toArray) (.agg (gVals g').toArray); binOp .neq 89 (.agg (gVals g).toArray) (.agg (gVals g').toArray) : Sem Value).run Try.prog w = .ok (.bool (!decide (g = g'))) w := by
  obtain ⟨k, ⟨a, b⟩, ⟨c, d⟩⟩ := g
  obtain ⟨k', ⟨a', b'⟩, ⟨c', d'⟩⟩ := g'
  have ho := eqIn_operand 9997
  simp only [Sem.run_bind, run_eqGuard_agg _ _ _ _ _ _ _ (show Try.prog.eqGuardType Try.prog.depth 89 = false by kernel_rfl), Result.andThen_ok, run_neq_struct]
  rw [run_equalIn_struct w 9999 _ _ _ (by simp only [Program.fieldsOf, Try.underlying89]) (by kernel_rfl)]
  simp [Program.fieldsOf, Try.underlying89, Try.underlying87, Op.eqFields, go_sem, gVals, ho]
  by_cases h1 : k = k' <;> by_cases h2 : a = a' <;> by_cases h3 : b = b' <;> by_cases h4 : c = c' <;> by_cases h5 : d = d' <;> simp [h1, h2, h3, h4, h5]
theorem eq_set (x y : Go.Operand) (g g' : SetT) (w : World) : (do eqGuard .neq 141 x y (.agg (sVals g).toArray) (.agg (sVals g').toArray); binOp .neq 141 (.agg (sVals g).toArray) (.agg (sVals g').toArray) : Sem Value).run Try.prog w = .ok (.bool (!decide (g = g'))) w := by
  obtain ⟨k, o, ⟨a, b⟩, ⟨c, d⟩⟩ := g
  obtain ⟨k', o', ⟨a', b'⟩, ⟨c', d'⟩⟩ := g'
  have ho := eqIn_operand 9997
  simp only [Sem.run_bind, run_eqGuard_agg _ _ _ _ _ _ _ (show Try.prog.eqGuardType Try.prog.depth 141 = false by kernel_rfl), Result.andThen_ok, run_neq_struct]
  rw [run_equalIn_struct w 9999 _ _ _ (by simp only [Program.fieldsOf, Try.underlying141]) (by kernel_rfl)]
  simp [Program.fieldsOf, Try.underlying141, Try.underlying87, Op.eqFields, go_sem, sVals, ho]
  by_cases h0 : o = o' <;> by_cases h1 : k = k' <;> by_cases h2 : a = a' <;> by_cases h3 : b = b' <;> by_cases h4 : c = c' <;> by_cases h5 : d = d' <;> simp [h0, h1, h2, h3, h4, h5]
theorem take_eq_next {α : Type} {xs ys : List α} {k : Nat} {x y : α} (h : xs.take k = ys.take k) (hx : xs[k]? = some x) (hy : ys[k]? = some y) (he : x = y) : xs.take (k + 1) = ys.take (k + 1) := by
  rw [List.take_add_one, List.take_add_one, h, hx, hy, he]
theorem ne_at {α : Type} {xs ys : List α} {k : Nat} {x y : α} (hx : xs[k]? = some x) (hy : ys[k]? = some y) (he : x ≠ y) : xs ≠ ys := fun e => by
  subst e; rw [hx] at hy; injection hy with hy; exact he hy
theorem take_eq_all {α : Type} {xs ys : List α} {k : Nat} (h : xs.take k = ys.take k) (hk : xs.length ≤ k) (hl : xs.length = ys.length) : xs = ys := by
  rwa [List.take_of_length_le hk, List.take_of_length_le (by omega)] at h

end Go.Proofs.Ytjgmbgfcffnanac
