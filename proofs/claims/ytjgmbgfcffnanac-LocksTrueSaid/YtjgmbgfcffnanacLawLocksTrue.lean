/- For every list of transactions and list of truths the law LocksTrue returns true, and nothing that was there turns. Conditions: none. -/
import Derived.Test.YtjgmbgfcffnanacLocks5
import Derived.Test.YtjgmbgfcffnanacRgs
namespace Go.Proofs.Ytjgmbgfcffnanac
open Go.ChangeShapes Go.WideShapes Go.ChangeAt Go.RowKit Go.WideMaps Go.WideElems Go.Joins

theorem Try.rg_bs {H : Type} {enc : TypeId × Value → H} {W : World} : Rg enc Try.prog W 50 1 (fun xs : List Bool => [boolsV xs]) (fun xs => (∀ x ∈ xs, True) ∧ xs.length * 1 ≤ reachBytes) :=
  rg_slice (b := 1) (k := 1) Try.underlying50 (by kernel_rfl) (by omega) (fun _ => rfl) (by kernel_rfl) (rg_bool Try.underlying4)

set_option maxRecDepth 100000 in
theorem locksTrue_lifted (os : Os) (started : os.Started) (H : Type) (enc : TypeId × Value → H) :
    ReturnsInHanded {} Try.checked os 14 .any (Rows.locksTrueSpec.pre6 enc Try.prog Try.f14 Rows.locksTrueRow.domain false) (Rows.locksTrueSpec.post enc Try.prog Try.f14 false true false false) := by
  refine returnsInHanded_of_change_sized (C := Try.checked) Try.own started (by kernel_rfl) Try.func14
    (ChangeSpec.witness6 (enc := enc) (C := Try.checked) false ⟨#[], #[.slice none 0 0, .slice none 0 0], []⟩ 8 (by kernel_rfl) (by kernel_rfl) (by kernel_rfl) (by kernel_rfl)) ?_
  intro W base args ds gs before hval0 hW _ hsz0 _
  have hval : ∀ (j : Nat) t v, Try.f14.params[j]? = some t → args[j]? = some v → Value.okWide Try.prog W .any base t v := hval0
  have hW' := hW
  obtain ⟨p, q, hA0, hV, rfl, hfz, hnd⟩ := hW
  have hA : DataW.TrodAll enc Try.prog W 0 (fun _ => true) true Try.f14.params.toList args.toList ds p := hA0
  have hsz : (DataW.weightsEach Try.prog Try.f14.params.toList ds).all (· ≤ reachBytes) = true := wOk_args hsz0
  rw [Try.params14] at hA hval hsz
  obtain ⟨v0, v1, d0, d1, p0, p1, rfl, rfl, rfl, h0, h1⟩ := trodAll_two hA
  obtain ⟨rfl, rfl⟩ := trodVars_none hV
  obtain ⟨x0, a0, q0⟩ := arg_one Try.rg_ts (fun _ => rfl) (by rw [Try.underlying22]; rfl) (hval 0 _ v0 rfl rfl) h0 (wOk_each hsz (j := 0) rfl rfl)
  obtain ⟨x1, a1, q1⟩ := arg_one Try.rg_bs (fun _ => rfl) (by rw [Try.underlying50]; rfl) (hval 1 _ v1 rfl rfl) h1 (wOk_each hsz (j := 1) rfl rfl)
  refine (fn_calls (C := (Cfg.mk Try.prog (ttAt ttl) ttl_ok.ok mixd)) (LocksTrue_fn x0 x1 q0.1) (memOf_agr W) ⟨_, _, rfl, a0, _, _, rfl, a1, rfl⟩).mono fun e W' ⟨he, hb⟩ => ⟨_, he, ?_⟩
  exact law_post Try.laidOut (by kernel_rfl) rfl Try.underlying4 rfl hW' rfl rfl rfl hb

theorem locksTrue_holds : Rows.LocksTrueSaid :=
  OpenClaim.holds_of_wide 14 Try.f14 rfl rfl rfl rfl rfl rfl rfl ⟨rfl, rfl, rfl, rfl, rfl⟩ rfl rfl rfl rfl rfl (by kernel_rfl) Try.func14 (by kernel_rfl)
    (of_decide_eq_true (by kernel_rfl)) (by unfold Func.isWrapper; first | (rw [if_pos (by decide +kernel)]; kernel_rfl) | (rw [if_neg (by decide +kernel)]; exact ⟨rfl, rfl⟩))
    (fun os started H enc _ => locksTrue_lifted os started H enc)

end Go.Proofs.Ytjgmbgfcffnanac
