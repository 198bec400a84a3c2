/- The types of the laws of package wire, read: each number of a plan is an int64, a string is its bytes. No condition. -/
import Derived.Test.YtjgmbgfcffnanabRgs
import Derived.Test.YtjgmbgfcffnanabWo
namespace Go.Proofs.Ytjgmbgfcffnanab
open Go.ChangeShapes Go.WideShapes Go.ChangeAt Go.RowKit Go.WideMaps Go.WideElems Go.Joins

section
variable {H : Type} {enc : TypeId × Value → H} {W : World}
theorem Try.rg_oI : Rg enc Try.prog W 57 2 cO (fun o => I64 o.n) :=
  (rg_struct2 Try.underlying57 rfl rfl (by kernel_rfl) (by kernel_rfl) Try.rg_i Try.rg_i).to (fun x => ⟨x.1, x.2⟩) (fun _ => rfl) (fun _ h => h.2)
theorem Try.rg_gI : Rg enc Try.prog W 96 5 cG GuardI :=
  (rg_struct3 Try.underlying96 rfl rfl rfl (by kernel_rfl) (by kernel_rfl) (by kernel_rfl) Try.rg_i Try.rg_oI Try.rg_oI).to (fun x => ⟨x.1, x.2.1, x.2.2⟩) (fun _ => rfl) (fun _ h => h.2)
theorem Try.rg_sI : Rg enc Try.prog W 59 6 cS SetI :=
  (rg_struct4 Try.underlying59 rfl rfl rfl rfl (by kernel_rfl) (by kernel_rfl) (by kernel_rfl) (by kernel_rfl) Try.rg_i Try.rg_i Try.rg_oI Try.rg_oI).to (fun x => ⟨x.1, x.2.1, x.2.2.1, x.2.2.2⟩) (fun _ => rfl) (fun _ h => h.2.2)
theorem Try.rg_tI : Rg enc Try.prog W 50 3 cT (fun t => TxnB t ∧ TxnI t) :=
  (rg_struct3 Try.underlying50 rfl rfl rfl (by kernel_rfl) (by kernel_rfl) (by kernel_rfl) Try.rg_is
    (rg_slice (b := 40) (k := 5) Try.underlying47 (by kernel_rfl) (by omega) (fun _ => rfl) (by kernel_rfl) Try.rg_gI)
    (rg_slice (b := 48) (k := 6) Try.underlying48 (by kernel_rfl) (by omega) (fun _ => rfl) (by kernel_rfl) Try.rg_sI)).to (fun x => ⟨x.1, x.2.1, x.2.2⟩) (fun _ => rfl) (fun x h => ⟨Nat.le_trans h.2.2.2 (by decide), h.2.1.1, h.2.2.1⟩)
theorem Try.rg_tsI : Rg enc Try.prog W 22 1 (fun l : List Txn => [txsV l]) (fun l => (∀ t ∈ l, TxnB t ∧ TxnI t) ∧ l.length * 72 ≤ reachBytes) :=
  rg_slice (b := 72) (k := 3) Try.underlying22 (by kernel_rfl) (by omega) (fun _ => rfl) (by kernel_rfl) Try.rg_tI
theorem Try.rg_planI : Rg enc Try.prog W 24 2 cP (fun p => TxsB p.txns ∧ PlanI p) :=
  (rg_struct2 Try.underlying24 rfl rfl (by kernel_rfl) (by kernel_rfl) Try.rg_i Try.rg_tsI).to (fun x => ⟨x.1, x.2⟩) (fun _ => rfl) (fun x h => ⟨fun t ht => (h.2.1 t ht).1, fun t ht => (h.2.1 t ht).2⟩)
theorem rg_string {P : Program} {t : TypeId} (ht : P.underlying t = some .string) : Rg enc P W t 1 (fun l : List UInt8 => [IV.str l]) (fun _ => True) := fun n cs d p h _ _ => by
  obtain ⟨s, rfl, _⟩ := DataW.trod_string ht h
  exact ⟨s.data.toList, ⟨_, _, rfl, by show _ = _; rw [bS_list], rfl⟩, fun u hu => by simp at hu; subst hu; rfl, trivial⟩
theorem Try.rg_str : Rg enc Try.prog W 9 1 (fun l : List UInt8 => [IV.str l]) (fun _ => True) := rg_string Try.underlying9
end
end Go.Proofs.Ytjgmbgfcffnanab
