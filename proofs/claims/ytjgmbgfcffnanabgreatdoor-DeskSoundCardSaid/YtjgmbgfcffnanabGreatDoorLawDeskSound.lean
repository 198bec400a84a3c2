/- For every plan and list of steps the law DeskSound returns true, and nothing that was there turns; the tied card. Condition: what the listed variables of the library hold. -/
import Derived.Test.YtjgmbgfcffnanabGreatDoorTie
import Derived.Test.YtjgmbgfcffnanabGreatDoorCards
import Derived.SevenTiedAt
import Derived.Test.YtjgmbgfcffnanabGreatDoorZ34
set_option maxRecDepth 100000
namespace Go.Proofs.YtjgmbgfcffnanabGreatDoor
open Go.ChangeShapes Go.WideShapes Go.ChangeAt Go.RowKit Go.WideMaps Go.WideElems Go.Joins
theorem Tryz.star : "*" ++ "errors.errorString" = "*errors.errorString" := by decide
theorem Tryz.rowErr (u : TypeId) (h : Tryz.prog.typeName? 3 u = some "*errors.errorString") : u = 235 :=
 typeName_ptr_named (nm := "errors.errorString") (by rw [Tryz.star];kernel_rfl) (by kernel_rfl) (by decide) u (by rw [Tryz.star];exact h)
theorem Tryz.rg_xI {H : Type} {enc : TypeId × Value → H} {W : World} : Rg enc Tryz.prog W 31 3 cStp (fun x => I64 x.txn ∧ I64 x.shard) :=
 (rg_struct3 Tryz.underlying31 rfl rfl rfl (by kernel_rfl) (by kernel_rfl) (by kernel_rfl) Tryz.rg_i Tryz.rg_i Tryz.rg_i).to (fun x => ⟨x.1,x.2.1,x.2.2⟩) (fun _ => rfl) (fun _ h => h.2)
theorem Tryz.rg_xsI {H : Type} {enc : TypeId × Value → H} {W : World} : Rg enc Tryz.prog W 25 1 (fun l : List StepT => [stpsV l]) (fun l => (∀ x ∈ l,I64 x.txn ∧ I64 x.shard) ∧ l.length * 24 ≤ reachBytes) :=
 rg_slice (b := 24) (k := 3) Tryz.underlying25 (by kernel_rfl) (by omega) (fun _ => rfl) (by kernel_rfl) Tryz.rg_xI
theorem glob_of_laid {W : World} (hL : laidMetH Tryz.prog Rows.deskSoundRow.laid W) (hsh : W.ShapedOpen Tryz.prog) : GlobM (memOf W) := by
 have hL : laidMet Tryz.prog Rows.deskSoundRow.laid W := by
  rw [MakeChecks.laidMetH_plain _ _ _ (by kernel_rfl)] at hL
  exact hL
 have h3 := hL.tail.tail
 have h4 := h3.tail.tail
 obtain ⟨a0,s0,hr,_⟩ := laid_sentinel h4 (by kernel_rfl : _ = some 3) (by kernel_rfl : _ = some 75) Tryz.underlying75 Tryz.rowErr Tryz.underlying235 Tryz.underlying237 rfl rfl Tryz.underlying9 (by kernel_rfl) (by kernel_rfl)
 obtain ⟨a1,s1,hs,_⟩ := laid_sentinel h4.tail (by kernel_rfl : _ = some 2) (by kernel_rfl : _ = some 75) Tryz.underlying75 Tryz.rowErr Tryz.underlying235 Tryz.underlying237 rfl rfl Tryz.underlying9 (by kernel_rfl) (by kernel_rfl)
 have ht : Lib.TabIs Tryz.prog W "internal/strconv.uint64pow10" .u64 Lib.pow10Tab := Lib.tabIs_of_head (by kernel_rfl : _ = some 1) (by kernel_rfl : _ = some 219) Tryz.underlying219 Tryz.underlying196 (by kernel_rfl) (by kernel_rfl) h3
 exact ⟨mx_of_shape hsh,memOf_var ht,⟨_,_,memOf_var hs⟩,⟨_,_,memOf_var hr⟩⟩
theorem deskSound_lifted (os : Os) (started : os.Started) (H : Type) (enc : TypeId × Value → H) :
 ReturnsInHanded {} Tryz.checked os 3 .any (fun w args => (Rows.deskSoundSpec.pre enc Tryz.prog Tryz.f3 Rows.deskSoundRow.domain false w args ∧ laidMetH Tryz.prog Rows.deskSoundRow.laid w) ∧ sizedMet enc Tryz.prog Tryz.f3 (OpenSpec.ofChange Rows.deskSoundSpec) false w args)
  (Rows.deskSoundSpec.post enc Tryz.prog Tryz.f3 false true false false) := by
 refine handed_laid (C := Tryz.checked) (X := fun w _ => laidMetH Tryz.prog Rows.deskSoundRow.laid w) (fun _ _ _ hh h => h.of_heap hh) Tryz.own started (by kernel_rfl) Tryz.func3
  (ChangeSpec.witness_shaped (enc := enc) (C := Tryz.checked) (os := os) (X := fun w _ => laidMetH Tryz.prog Rows.deskSoundRow.laid w) false (World.laidAll Tryz.prog os Rows.deskSoundRow.laid) #[.agg #[.int .i64 0,.slice none 0 0],.slice none 0 0] 8 (World.laidAll_os _ _ _)
   (World.shaped_of_ZipB (by kernel_rfl) (by kernel_rfl)) (by kernel_rfl) (by kernel_rfl) (by kernel_rfl)
   (by rw [MakeChecks.laidMetH_plain _ _ _ (by kernel_rfl)];exact laidMet_laidAll _ (by kernel_rfl) (by kernel_rfl))) ?_
 intro W base args ds gs before hval0 hW hsz0 hL hsh
 have hval : ∀ (j : Nat) t v,Tryz.f3.params[j]? = some t → args[j]? = some v → Value.okWide Tryz.prog W .any base t v := hval0
 have hW' := hW
 obtain ⟨p,q,hA0,hV,rfl,hfz,hnd⟩ := hW
 have hA : DataW.TrodAll enc Tryz.prog W 0 (fun _ => true) true Tryz.f3.params.toList args.toList ds p := hA0
 have hsz : (DataW.weightsEach Tryz.prog Tryz.f3.params.toList ds).all (· ≤ reachBytes) = true := wOk_args hsz0
 rw [Tryz.params3] at hA hval hsz
 obtain ⟨v0,v1,d0,d1,p0,p1,rfl,rfl,rfl,h0,h1⟩ := trodAll_two hA
 obtain ⟨rfl,rfl⟩ := trodVars_none hV
 obtain ⟨x0,a0,q0⟩ := arg_agg Tryz.underlying24 (by kernel_rfl) Tryz.rg_planI (hval 0 _ v0 rfl rfl) h0 (wOk_each hsz (j := 0) rfl rfl)
 obtain ⟨x1,a1,q1⟩ := arg_one Tryz.rg_xsI (fun _ => rfl) (by rw [Tryz.underlying25];rfl) (hval 1 _ v1 rfl rfl) h1 (wOk_each hsz (j := 1) rfl rfl)
 refine (fn_calls (C := CC) (DeskSound_fn (glob_of_laid hL hsh) x0 x1 q0.1 q0.2 q1.1) (memOf_agr W) ⟨_,_,rfl,a0,_,_,rfl,⟨a1,Mem.le.refl _⟩,rfl⟩).mono fun e W' ⟨he,hb⟩ => ⟨_,he,?_⟩
 exact law_post Tryz.laidOut (by kernel_rfl) rfl Tryz.underlying4 rfl hW' rfl rfl rfl hb
theorem deskSound_row_holds : Rows.DeskSoundSaid :=
 OpenClaim.holds_of_wide 3 Tryz.f3 rfl rfl rfl rfl rfl rfl rfl ⟨rfl,rfl,rfl,rfl,rfl⟩ rfl rfl rfl rfl rfl (by kernel_rfl) Tryz.func3 (by kernel_rfl)
  (of_decide_eq_true (by kernel_rfl)) (by unfold Func.isWrapper;first | (rw [if_pos (by decide +kernel)];kernel_rfl) | (rw [if_neg (by decide +kernel)];exact ⟨rfl,rfl⟩))
  (fun os started H enc _ => deskSound_lifted os started H enc)
theorem deskSound_holds : Rows.DeskSoundCardSaid :=
 Claim7.holds_tied_plain_at .later [] Rows.deskSoundCard.laidKinds true Rows.deskSoundCard.stood.harness true deskSound_row_holds (fun _ h => by cases h) (by kernel_rfl) (fun _ h => by cases h) deskSound_row_tie rfl ⟨rfl,rfl⟩ (by kernel_rfl) rfl
  (fun f fn hf hfn => by
   obtain rfl : f = 3 := Option.some.inj ((show Tryz.prog.funcNamed Rows.deskSoundRow.func = some 3 by kernel_rfl).symm.trans hf) |>.symm
   obtain rfl : fn = Tryz.f3 := (Option.some.inj (Tryz.func3.symm.trans hfn)).symm
   exact ⟨by kernel_rfl,fun j t ht => by
    rw [Tryz.params3] at ht
    have hm : t ∈ [24,25] := by simpa using Array.mem_of_getElem? ht
    have hall : ([24,25].all fun u => !Tryz.prog.wantsStandIn u) = true := by kernel_rfl
    exact (show Tryz.prog.wantsStandIn t = false by simpa using List.all_eq_true.1 hall t hm)⟩)
  (by kernel_rfl)
end Go.Proofs.YtjgmbgfcffnanabGreatDoor
