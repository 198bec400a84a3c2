/- The types of the statements' arguments, read. No condition. -/
import Derived.Test.YtjgmbgfcffnanabUp
import Derived.Test.YtjgmbgfcffnanabPl
namespace Go.Proofs.Ytjgmbgfcffnanab
open Go.ChangeShapes Go.WideShapes Go.ChangeAt Go.RowKit Go.WideMaps Go.WideElems Go.Joins

theorem fn_calls {C : Cfg} {f : FuncId} {args : List IV} {b : Bool} (h : Fn C f args (IV.bool b)) {μ : Mem} {w : World} (ha : Agr μ w) {vs : List Value} (hv : IVs μ args vs) : Calls C.P f vs.toArray w fun e w' => e = .returned (.bool b) ∧ Below w.heap.size w w' :=
  (h.2 μ w vs hv ha).mono fun e w' ⟨v, μ', he, hp, hs⟩ => ⟨by rw [he, show v = .bool b from hp], hs.below⟩
theorem wOk_args {H : Type} {P : Program} {ts ts' : List TypeId} {ds gs : List (DataW H)} (h : (DataW.weightsEach P (ts ++ ts') (ds ++ gs)).all (· ≤ reachBytes) = true) : (DataW.weightsEach P ts ds).all (· ≤ reachBytes) = true := by
  refine List.all_eq_true.2 fun n hn => List.all_eq_true.1 h n ?_
  clear h
  induction ts generalizing ds with
  | nil => simp [DataW.weightsEach] at hn
  | cons t ts ih =>
    cases ds with
    | nil => simp [DataW.weightsEach] at hn
    | cons d ds =>
      simp only [DataW.weightsEach, List.cons_append, List.mem_append] at hn ⊢
      exact hn.imp id ih

section
variable {H : Type} {enc : TypeId × Value → H} {W : World}
def cO (o : Ytjgmbgfcffnanab.Operand) : List IV := [IV.int o.kind, IV.int o.n]
theorem Try.rg_i : Rg enc Try.prog W 3 1 cI I64 := rg_int Try.underlying3
theorem Try.rg_is : Rg enc Try.prog W 37 1 (fun xs : List Int => [intsV xs]) (fun xs => (∀ x ∈ xs, I64 x) ∧ xs.length * 8 ≤ reachBytes) :=
  rg_slice (b := 8) (k := 1) Try.underlying37 (by kernel_rfl) (by omega) (fun _ => rfl) (by kernel_rfl) Try.rg_i
theorem Try.rg_o : Rg enc Try.prog W 57 2 cO (fun _ => True) :=
  (rg_struct2 Try.underlying57 rfl rfl (by kernel_rfl) (by kernel_rfl) Try.rg_i Try.rg_i).to (fun x => ⟨x.1, x.2⟩) (fun _ => rfl) (fun _ _ => trivial)
theorem Try.rg_g : Rg enc Try.prog W 96 5 cG (fun _ => True) :=
  (rg_struct3 Try.underlying96 rfl rfl rfl (by kernel_rfl) (by kernel_rfl) (by kernel_rfl) Try.rg_i Try.rg_o Try.rg_o).to (fun x => ⟨x.1, x.2.1, x.2.2⟩) (fun _ => rfl) (fun _ _ => trivial)
theorem Try.rg_s : Rg enc Try.prog W 59 6 cS (fun _ => True) :=
  (rg_struct4 Try.underlying59 rfl rfl rfl rfl (by kernel_rfl) (by kernel_rfl) (by kernel_rfl) (by kernel_rfl) Try.rg_i Try.rg_i Try.rg_o Try.rg_o).to (fun x => ⟨x.1, x.2.1, x.2.2.1, x.2.2.2⟩) (fun _ => rfl) (fun _ _ => trivial)
theorem Try.rg_t : Rg enc Try.prog W 50 3 cT TxnB :=
  (rg_struct3 Try.underlying50 rfl rfl rfl (by kernel_rfl) (by kernel_rfl) (by kernel_rfl) Try.rg_is
    (rg_slice (b := 40) (k := 5) Try.underlying47 (by kernel_rfl) (by omega) (fun _ => rfl) (by kernel_rfl) Try.rg_g)
    (rg_slice (b := 48) (k := 6) Try.underlying48 (by kernel_rfl) (by omega) (fun _ => rfl) (by kernel_rfl) Try.rg_s)).to (fun x => ⟨x.1, x.2.1, x.2.2⟩) (fun _ => rfl) (fun x h => Nat.le_trans h.2.2.2 (by decide))
theorem Try.rg_ts : Rg enc Try.prog W 22 1 (fun l : List Txn => [txsV l]) (fun l => TxsB l ∧ l.length * 72 ≤ reachBytes) :=
  rg_slice (b := 72) (k := 3) Try.underlying22 (by kernel_rfl) (by omega) (fun _ => rfl) (by kernel_rfl) Try.rg_t
end
end Go.Proofs.Ytjgmbgfcffnanab
