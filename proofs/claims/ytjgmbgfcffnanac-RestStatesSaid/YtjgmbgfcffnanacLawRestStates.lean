/- For every plan, state and step the law RestStates returns true, and nothing that was there turns. Conditions: none. -/
import Derived.Test.YtjgmbgfcffnanacSw11
import Derived.Test.YtjgmbgfcffnanacRgs
namespace Go.Proofs.Ytjgmbgfcffnanac
open Go.ChangeShapes Go.WideShapes Go.ChangeAt Go.RowKit Go.WideMaps Go.WideElems Go.Joins

theorem Try.rg_plan {H : Type} {enc : TypeId × Value → H} {W : World} : Rg enc Try.prog W 24 2 cP (fun p => TxsB p.txns) :=
  (rg_struct2 Try.underlying24 rfl rfl (by kernel_rfl) (by kernel_rfl) Try.rg_i Try.rg_ts).to (fun x => ⟨x.1, x.2⟩) (fun _ => rfl) (fun x h => h.2.1)

theorem Try.rg_bs1 {H : Type} {enc : TypeId × Value → H} {W : World} : Rg enc Try.prog W 50 1 (fun xs : List Bool => [boolsV xs]) (fun xs => (∀ x ∈ xs, True) ∧ xs.length * 1 ≤ reachBytes) :=
  rg_slice (b := 1) (k := 1) Try.underlying50 (by kernel_rfl) (by omega) (fun _ => rfl) (by kernel_rfl) (rg_bool Try.underlying4)
theorem Try.rg_bb {H : Type} {enc : TypeId × Value → H} {W : World} : Rg enc Try.prog W 26 1 (fun l : List (List Bool) => [bbV l]) (fun _ => True) :=
  (rg_slice (b := 24) (k := 1) Try.underlying26 (by kernel_rfl) (by omega) (fun _ => rfl) (by kernel_rfl) Try.rg_bs1).to (fun x => x) (fun _ => rfl) (fun _ _ => trivial)
theorem Try.rg_ii {H : Type} {enc : TypeId × Value → H} {W : World} : Rg enc Try.prog W 27 1 (fun l : List (List Int) => [iiV l]) (fun _ => True) :=
  (rg_slice (b := 24) (k := 1) Try.underlying27 (by kernel_rfl) (by omega) (fun _ => rfl) (by kernel_rfl) Try.rg_is).to (fun x => x) (fun _ => rfl) (fun _ _ => trivial)
theorem Try.rg_st {H : Type} {enc : TypeId × Value → H} {W : World} : Rg enc Try.prog W 29 4 cSt (fun _ => True) :=
  (rg_struct4 Try.underlying29 rfl rfl rfl rfl (by kernel_rfl) (by kernel_rfl) (by kernel_rfl) (by kernel_rfl) Try.rg_is Try.rg_bb Try.rg_bb Try.rg_ii).to (fun x => ⟨x.1, x.2.1, x.2.2.1, x.2.2.2⟩) (fun _ => rfl) (fun _ _ => trivial)
theorem Try.rg_x {H : Type} {enc : TypeId × Value → H} {W : World} : Rg enc Try.prog W 40 3 cStp (fun _ => True) :=
  (rg_struct3 Try.underlying40 rfl rfl rfl (by kernel_rfl) (by kernel_rfl) (by kernel_rfl) Try.rg_i Try.rg_i Try.rg_i).to (fun x => ⟨x.1, x.2.1, x.2.2⟩) (fun _ => rfl) (fun _ _ => trivial)
set_option maxRecDepth 100000 in
theorem restStates_lifted (os : Os) (started : os.Started) (H : Type) (enc : TypeId × Value → H) :
    ReturnsInHanded {} Try.checked os 4 .any (Rows.restStatesSpec.pre6 enc Try.prog Try.f4 Rows.restStatesRow.domain false) (Rows.restStatesSpec.post enc Try.prog Try.f4 false true false false) := by
  refine returnsInHanded_of_change_sized (C := Try.checked) Try.own started (by kernel_rfl) Try.func4
    (ChangeSpec.witness6 (enc := enc) (C := Try.checked) false ⟨#[], #[.agg #[.int .i64 0, .slice none 0 0], .agg #[.slice none 0 0, .slice none 0 0, .slice none 0 0, .slice none 0 0], .agg #[.int .i64 0, .int .i64 0, .int .i64 0]], []⟩ 8 (by kernel_rfl) (by kernel_rfl) (by kernel_rfl) (by kernel_rfl)) ?_
  intro W base args ds gs before hval0 hW _ hsz0 _
  have hval : ∀ (j : Nat) t v, Try.f4.params[j]? = some t → args[j]? = some v → Value.okWide Try.prog W .any base t v := hval0
  have hW' := hW
  obtain ⟨p, q, hA0, hV, rfl, hfz, hnd⟩ := hW
  have hA : DataW.TrodAll enc Try.prog W 0 (fun _ => true) true Try.f4.params.toList args.toList ds p := hA0
  have hsz : (DataW.weightsEach Try.prog Try.f4.params.toList ds).all (· ≤ reachBytes) = true := wOk_args hsz0
  rw [Try.params4] at hA hval hsz
  obtain ⟨v0, v1, v2, d0, d1, d2, p0, p1, p2, rfl, rfl, rfl, h0, h1, h2⟩ := trodAll_three hA
  obtain ⟨rfl, rfl⟩ := trodVars_none hV
  obtain ⟨x0, a0, q0⟩ := arg_agg Try.underlying24 (by kernel_rfl) Try.rg_plan (hval 0 _ v0 rfl rfl) h0 (wOk_each hsz (j := 0) rfl rfl)
  obtain ⟨x1, a1, q1⟩ := arg_agg Try.underlying29 (by kernel_rfl) Try.rg_st (hval 1 _ v1 rfl rfl) h1 (wOk_each hsz (j := 1) rfl rfl)
  obtain ⟨x2, a2, q2⟩ := arg_agg Try.underlying40 (by kernel_rfl) Try.rg_x (hval 2 _ v2 rfl rfl) h2 (wOk_each hsz (j := 2) rfl rfl)
  refine (fn_calls (C := (Cfg.mk Try.prog (ttAt ttl) ttl_ok.ok mixd)) (RestStates_fn x0 x1 x2 q0) (memOf_agr W) ⟨_, _, rfl, a0, _, _, rfl, a1, _, _, rfl, a2, rfl⟩).mono fun e W' ⟨he, hb⟩ => ⟨_, he, ?_⟩
  exact law_post Try.laidOut (by kernel_rfl) rfl Try.underlying4 rfl hW' rfl rfl rfl hb

theorem restStates_holds : Rows.RestStatesSaid :=
  OpenClaim.holds_of_wide 4 Try.f4 rfl rfl rfl rfl rfl rfl rfl ⟨rfl, rfl, rfl, rfl, rfl⟩ rfl rfl rfl rfl rfl (by kernel_rfl) Try.func4 (by kernel_rfl)
    (of_decide_eq_true (by kernel_rfl)) (by unfold Func.isWrapper; first | (rw [if_pos (by decide +kernel)]; kernel_rfl) | (rw [if_neg (by decide +kernel)]; exact ⟨rfl, rfl⟩))
    (fun os started H enc _ => restStates_lifted os started H enc)

end Go.Proofs.Ytjgmbgfcffnanac
