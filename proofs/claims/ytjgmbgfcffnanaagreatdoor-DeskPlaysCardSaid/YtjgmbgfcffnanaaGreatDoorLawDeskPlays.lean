/- For every two strings the law DeskPlays returns true, and nothing that was there turns; the tied card. Condition: what the listed variables of the library hold. -/
import Derived.Test.YtjgmbgfcffnanaaGreatDoorTie
import Derived.Test.YtjgmbgfcffnanaaGreatDoorCards
import Derived.SevenTiedAt
import Derived.Test.YtjgmbgfcffnanaaGreatDoorZ44
set_option maxRecDepth 100000
namespace Go.Proofs.YtjgmbgfcffnanaaGreatDoor
open Go.ChangeShapes Go.WideShapes Go.ChangeAt Go.RowKit Go.WideMaps Go.WideElems Go.Joins
theorem Tryz.star : "*" ++ "errors.errorString" = "*errors.errorString" := by decide
theorem Tryz.rowErr (u : TypeId) (h : Tryz.prog.typeName? 3 u = some "*errors.errorString") : u = 267 :=
 typeName_ptr_named (nm := "errors.errorString") (by rw [Tryz.star];kernel_rfl) (by kernel_rfl) (by decide) u (by rw [Tryz.star];exact h)
theorem glob_of_laid {W : World} (hL : laidMetH Tryz.prog Rows.deskPlaysRow.laid W) (hsh : W.ShapedOpen Tryz.prog) : GlobM (memOf W) := by
 have hL : laidMet Tryz.prog Rows.deskPlaysRow.laid W := by
  rw [MakeChecks.laidMetH_plain _ _ _ (by kernel_rfl)] at hL
  exact hL
 have h3 := hL.tail.tail
 have h4 := h3.tail.tail
 obtain ⟨a0,s0,hr,_⟩ := laid_sentinel h4 (by kernel_rfl : _ = some 3) (by kernel_rfl : _ = some 51) Tryz.underlying51 Tryz.rowErr Tryz.underlying267 Tryz.underlying269 rfl rfl Tryz.underlying9 (by kernel_rfl) (by kernel_rfl)
 obtain ⟨a1,s1,hs,_⟩ := laid_sentinel h4.tail (by kernel_rfl : _ = some 2) (by kernel_rfl : _ = some 51) Tryz.underlying51 Tryz.rowErr Tryz.underlying267 Tryz.underlying269 rfl rfl Tryz.underlying9 (by kernel_rfl) (by kernel_rfl)
 have ht : Lib.TabIs Tryz.prog W "internal/strconv.uint64pow10" .u64 Lib.pow10Tab := Lib.tabIs_of_head (by kernel_rfl : _ = some 1) (by kernel_rfl : _ = some 251) Tryz.underlying251 Tryz.underlying224 (by kernel_rfl) (by kernel_rfl) h3
 exact ⟨mx_of_shape hsh,memOf_var ht,⟨_,_,memOf_var hs⟩,⟨_,_,memOf_var hr⟩⟩
theorem deskPlays_lifted (os : Os) (started : os.Started) (H : Type) (enc : TypeId × Value → H) :
 ReturnsInHanded {} Tryz.checked os 3 .any (fun w args => (Rows.deskPlaysSpec.pre enc Tryz.prog Tryz.f3 Rows.deskPlaysRow.domain false w args ∧ laidMetH Tryz.prog Rows.deskPlaysRow.laid w) ∧ sizedMet enc Tryz.prog Tryz.f3 (OpenSpec.ofChange Rows.deskPlaysSpec) false w args)
  (Rows.deskPlaysSpec.post enc Tryz.prog Tryz.f3 false true false false) := by
 refine handed_laid (C := Tryz.checked) (X := fun w _ => laidMetH Tryz.prog Rows.deskPlaysRow.laid w) (fun _ _ _ hh h => h.of_heap hh) Tryz.own started (by kernel_rfl) Tryz.func3
  (ChangeSpec.witness_shaped (enc := enc) (C := Tryz.checked) (os := os) (X := fun w _ => laidMetH Tryz.prog Rows.deskPlaysRow.laid w) false (World.laidAll Tryz.prog os Rows.deskPlaysRow.laid) #[.string ByteArray.empty,.string ByteArray.empty] 8 (World.laidAll_os _ _ _)
   (World.shaped_of_ZipB (by kernel_rfl) (by kernel_rfl)) (by kernel_rfl) (by kernel_rfl) (by kernel_rfl)
   (by rw [MakeChecks.laidMetH_plain _ _ _ (by kernel_rfl)];exact laidMet_laidAll _ (by kernel_rfl) (by kernel_rfl))) ?_
 intro W base args ds gs before hval0 hW hsz0 hL hsh
 have hval : ∀ (j : Nat) t v,Tryz.f3.params[j]? = some t → args[j]? = some v → Value.okWide Tryz.prog W .any base t v := hval0
 have hW' := hW
 obtain ⟨p,q,hA0,hV,rfl,hfz,hnd⟩ := hW
 have hA : DataW.TrodAll enc Tryz.prog W 0 (fun _ => true) true Tryz.f3.params.toList args.toList ds p := hA0
 have hsz : (DataW.weightsEach Tryz.prog Tryz.f3.params.toList ds).all (· ≤ reachBytes) = true := wOk_args hsz0
 rw [Tryz.params3] at hA hval hsz
 obtain ⟨v0,v1,d0,d1,p0,p1,rfl,rfl,rfl,h0,h1⟩ := trodAll_two hA
 obtain ⟨rfl,rfl⟩ := trodVars_none hV
 obtain ⟨x0,a0,q0⟩ := arg_one (rg_stringB Tryz.underlying9) (fun _ => rfl) (by rw [Tryz.underlying9];rfl) (hval 0 _ v0 rfl rfl) h0 (wOk_each hsz (j := 0) rfl rfl)
 obtain ⟨x1,a1,q1⟩ := arg_one (rg_stringB Tryz.underlying9) (fun _ => rfl) (by rw [Tryz.underlying9];rfl) (hval 1 _ v1 rfl rfl) h1 (wOk_each hsz (j := 1) rfl rfl)
 refine (fn_calls (C := CC) (DeskPlays_fn (glob_of_laid hL hsh) x0 x1 q1) (memOf_agr W) ⟨_,_,rfl,a0,_,_,rfl,⟨a1,Mem.le.refl _⟩,rfl⟩).mono fun e W' ⟨he,hb⟩ => ⟨_,he,?_⟩
 exact law_post Tryz.laidOut (by kernel_rfl) rfl Tryz.underlying4 rfl hW' rfl rfl rfl hb
theorem deskPlays_row_holds : Rows.DeskPlaysSaid :=
 OpenClaim.holds_of_wide 3 Tryz.f3 rfl rfl rfl rfl rfl rfl rfl ⟨rfl,rfl,rfl,rfl,rfl⟩ rfl rfl rfl rfl rfl (by kernel_rfl) Tryz.func3 (by kernel_rfl)
  (of_decide_eq_true (by kernel_rfl)) (by unfold Func.isWrapper;first | (rw [if_pos (by decide +kernel)];kernel_rfl) | (rw [if_neg (by decide +kernel)];exact ⟨rfl,rfl⟩))
  (fun os started H enc _ => deskPlays_lifted os started H enc)
theorem deskPlays_holds : Rows.DeskPlaysCardSaid :=
 Claim7.holds_tied_plain_at .later [] Rows.deskPlaysCard.laidKinds true Rows.deskPlaysCard.stood.harness true deskPlays_row_holds (fun _ h => by cases h) (by kernel_rfl) (fun _ h => by cases h) deskPlays_row_tie rfl ⟨rfl,rfl⟩ (by kernel_rfl) rfl
  (fun f fn hf hfn => by
   obtain rfl : f = 3 := Option.some.inj ((show Tryz.prog.funcNamed Rows.deskPlaysRow.func = some 3 by kernel_rfl).symm.trans hf) |>.symm
   obtain rfl : fn = Tryz.f3 := (Option.some.inj (Tryz.func3.symm.trans hfn)).symm
   exact ⟨by kernel_rfl,fun j t ht => by
    rw [Tryz.params3] at ht
    have hm : t ∈ [9,9] := by simpa using Array.mem_of_getElem? ht
    have hall : ([9,9].all fun u => !Tryz.prog.wantsStandIn u) = true := by kernel_rfl
    exact (show Tryz.prog.wantsStandIn t = false by simpa using List.all_eq_true.1 hall t hm)⟩)
  (by kernel_rfl)
end Go.Proofs.YtjgmbgfcffnanaaGreatDoor
