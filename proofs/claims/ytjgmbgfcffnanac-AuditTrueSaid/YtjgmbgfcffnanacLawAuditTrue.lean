/- For every plan, store, list of picks and two numbers the law AuditTrue returns true, and nothing that was there turns. Conditions: none. -/
import Derived.Test.YtjgmbgfcffnanacSw8
import Derived.Test.YtjgmbgfcffnanacRgs
namespace Go.Proofs.Ytjgmbgfcffnanac
open Go.ChangeShapes Go.WideShapes Go.ChangeAt Go.RowKit Go.WideMaps Go.WideElems Go.Joins

theorem Try.rg_plan {H : Type} {enc : TypeId × Value → H} {W : World} : Rg enc Try.prog W 24 2 cP (fun p => TxsB p.txns) :=
  (rg_struct2 Try.underlying24 rfl rfl (by kernel_rfl) (by kernel_rfl) Try.rg_i Try.rg_ts).to (fun x => ⟨x.1, x.2⟩) (fun _ => rfl) (fun x h => h.2.1)

set_option maxRecDepth 100000 in
theorem auditTrue_lifted (os : Os) (started : os.Started) (H : Type) (enc : TypeId × Value → H) :
    ReturnsInHanded {} Try.checked os 7 .any (Rows.auditTrueSpec.pre6 enc Try.prog Try.f7 Rows.auditTrueRow.domain false) (Rows.auditTrueSpec.post enc Try.prog Try.f7 false true false false) := by
  refine returnsInHanded_of_change_sized (C := Try.checked) Try.own started (by kernel_rfl) Try.func7
    (ChangeSpec.witness6 (enc := enc) (C := Try.checked) false ⟨#[], #[.agg #[.int .i64 0, .slice none 0 0], .slice none 0 0, .slice none 0 0, .int .i64 0, .int .i64 0], []⟩ 8 (by kernel_rfl) (by kernel_rfl) (by kernel_rfl) (by kernel_rfl)) ?_
  intro W base args ds gs before hval0 hW _ hsz0 _
  have hval : ∀ (j : Nat) t v, Try.f7.params[j]? = some t → args[j]? = some v → Value.okWide Try.prog W .any base t v := hval0
  have hW' := hW
  obtain ⟨p, q, hA0, hV, rfl, hfz, hnd⟩ := hW
  have hA : DataW.TrodAll enc Try.prog W 0 (fun _ => true) true Try.f7.params.toList args.toList ds p := hA0
  have hsz : (DataW.weightsEach Try.prog Try.f7.params.toList ds).all (· ≤ reachBytes) = true := wOk_args hsz0
  rw [Try.params7] at hA hval hsz
  obtain ⟨v0, v1, v2, v3, v4, d0, d1, d2, d3, d4, p0, p1, p2, p3, p4, rfl, rfl, rfl, h0, h1, h2, h3, h4⟩ := trodAll_five hA
  obtain ⟨rfl, rfl⟩ := trodVars_none hV
  obtain ⟨x0, a0, q0⟩ := arg_agg Try.underlying24 (by kernel_rfl) Try.rg_plan (hval 0 _ v0 rfl rfl) h0 (wOk_each hsz (j := 0) rfl rfl)
  obtain ⟨x1, a1, q1⟩ := arg_one Try.rg_is (fun _ => rfl) (by rw [Try.underlying25]; rfl) (hval 1 _ v1 rfl rfl) h1 (wOk_each hsz (j := 1) rfl rfl)
  obtain ⟨x2, a2, q2⟩ := arg_one Try.rg_is (fun _ => rfl) (by rw [Try.underlying25]; rfl) (hval 2 _ v2 rfl rfl) h2 (wOk_each hsz (j := 2) rfl rfl)
  obtain ⟨x3, a3, q3⟩ := arg_one Try.rg_i (fun _ => rfl) (by rw [Try.underlying3]; rfl) (hval 3 _ v3 rfl rfl) h3 (wOk_each hsz (j := 3) rfl rfl)
  obtain ⟨x4, a4, q4⟩ := arg_one Try.rg_i (fun _ => rfl) (by rw [Try.underlying3]; rfl) (hval 4 _ v4 rfl rfl) h4 (wOk_each hsz (j := 4) rfl rfl)
  refine (fn_calls (C := (Cfg.mk Try.prog (ttAt ttl) ttl_ok.ok mixd)) (AuditTrue_fn x0 x1 x2 x3 x4 q0 q2.1 q3 q4) (memOf_agr W) ⟨_, _, rfl, a0, _, _, rfl, a1, _, _, rfl, a2, _, _, rfl, a3, _, _, rfl, a4, rfl⟩).mono fun e W' ⟨he, hb⟩ => ⟨_, he, ?_⟩
  exact law_post Try.laidOut (by kernel_rfl) rfl Try.underlying4 rfl hW' rfl rfl rfl hb

theorem auditTrue_holds : Rows.AuditTrueSaid :=
  OpenClaim.holds_of_wide 7 Try.f7 rfl rfl rfl rfl rfl rfl rfl ⟨rfl, rfl, rfl, rfl, rfl⟩ rfl rfl rfl rfl rfl (by kernel_rfl) Try.func7 (by kernel_rfl)
    (of_decide_eq_true (by kernel_rfl)) (by unfold Func.isWrapper; first | (rw [if_pos (by decide +kernel)]; kernel_rfl) | (rw [if_neg (by decide +kernel)]; exact ⟨rfl, rfl⟩))
    (fun os started H enc _ => auditTrue_lifted os started H enc)

end Go.Proofs.Ytjgmbgfcffnanac
