/- From what a tied row lists to what the library's contracts ask. No condition. -/
import Derived.OpenShut
import Derived.LaidMore
import Derived.Lay
import Derived.Stop.Joined
import Derived.Stop.LaidErr
import Derived.Lib.LaidTab
import Derived.Shelf.Vars
import Derived.Test.YtjgmbgfcffnanaaGreatDoorZ43
namespace Go.Proofs.YtjgmbgfcffnanaaGreatDoor
open Go.ChangeShapes Go.WideShapes Go.ChangeAt Go.RowKit
theorem handed_laid {H : Type} {enc : TypeId × Value → H} {a : Assume} {C : Checked} {os : Os} {f : FuncId} {fn : Func} {s : ChangeSpec} {conds : List PathCond} {apart fresh handsOn again : Bool} {X : World → Array Value → Prop}
 (hX : ∀ (w w' : World) (args : Array Value),w.heap = w'.heap → X w args → X w' args)
 (own : ownKnob C.prog.godebug = none) (started : os.Started) (noInit : C.prog.inits.idxOf? f = none) (hfn : C.prog.funcs[f]? = some fn)
 (witness : ∃ (w : World) (tape : Tape) (i : Input),w.os = os ∧ (w.forCall tape i).Shaped C.prog ∧ i.vars = [] ∧ Input.okWide C.prog (w.forCall tape i) .any w.heap.size f i ∧
  ((s.pre enc C.prog fn conds apart (w.forCall tape i).memory i.args ∧ X (w.forCall tape i).memory i.args) ∧ sizedMet enc C.prog fn (OpenSpec.ofChange s) apart (w.forCall tape i).memory i.args) ∧ a.holds C.prog (lone (Frame.enter C.prog f i.args .normal) [] (w.forCall tape i)))
 (contract : ∀ (W : World) (base : Nat) (args : Array Value) (ds gs : List (DataW H)) (before : List MemPlace),
  (∀ (j : Nat) t v,fn.params[j]? = some t → args[j]? = some v → Value.okWide C.prog W .any base t v) →
  DataW.Whole enc C.prog fn.params.toList s.vars apart W args.toList ds gs before →
  (DataW.weightsEach C.prog (fn.params.toList ++ s.plain.varTypes C.prog) (ds ++ gs)).all (· ≤ reachBytes) = true → X W args → W.ShapedOpen C.prog →
  Calls C.prog f args W fun e W' => ∃ v,e = .returned v ∧ s.post enc C.prog fn apart fresh handsOn again W args v W') :
 ReturnsInHanded a C os f .any (fun w args => (s.pre enc C.prog fn conds apart w args ∧ X w args) ∧ sizedMet enc C.prog fn (OpenSpec.ofChange s) apart w args) (s.post enc C.prog fn apart fresh handsOn again) := by
 refine returnsInHanded_of_calls own started noInit witness ?_
 intro w tape i _ hsh _ hok hpre hholds
 obtain ⟨_,_,_,fn',hfn',_,_,_,_,hval⟩ := hok
 have e : fn' = fn := Option.some.inj (hfn'.symm.trans hfn)
 subst e
 obtain ⟨⟨⟨ds,gs,before,hw,_⟩,hx⟩,hz⟩ := hpre
 have hw' := DataW.Whole.of_heap (w' := w.forCall tape i) (by rfl) hw
 refine (contract (w.forCall tape i) w.heap.size i.args ds gs before hval hw' (hz.weights hw) (hX _ _ _ (by rfl) hx) hsh).mono fun e W' ⟨v,he,hp⟩ => ?_
 subst he
 exact ChangeSpec.post_blind hp
theorem memOf_var {W : World} {n : String} {cs : Array Value} (h : W.var? Tryz.prog n = some cs) : GV (memOf W) n cs := by
 unfold World.var? at h
 cases hg : Tryz.prog.globalNamed n with
 | none => rw [hg] at h;cases h
 | some g =>
  refine ⟨g,hg,?_⟩
  rw [hg,Option.bind_some] at h
  exact h
theorem mx_of_shape {W : World} (h : W.ShapedOpen Tryz.prog) : ∃ m : Int,GV (memOf W) "internal/bytealg.MaxLen" #[.int .i64 m] := by
 have hg : Tryz.prog.globalNamed "internal/bytealg.MaxLen" = some 0 := by kernel_rfl
 have h0 : ((begin Tryz.prog (fun _ _ => 0) default).world.heap[0]?).bind Obj.row? = some (#[.int .i64 0],3) := by kernel_rfl
 have h1 : 0 < Tryz.prog.globals.size := of_decide_eq_true (by kernel_rfl)
 obtain ⟨m,hm⟩ := cell_of_shapedOpen_int h h1 h0 rfl (by kernel_rfl) (by kernel_rfl) Tryz.underlying3
 obtain ⟨cs,hh,hs,_⟩ := h.1 0 _ _ h1 h0
 refine ⟨m,0,hg,?_⟩
 have hc : cs[0]? = some (.int .i64 m) := by
  simp only [World.cell?,hh] at hm
  exact hm
 have hs1 : cs.size = 1 := hs
 have : cs = #[.int .i64 m] := by
  apply Array.ext'
  have hl : cs.toList.length = 1 := by simpa using hs1
  match e : cs.toList,hl with
  | [x],_ =>
   have : cs.toList[0]? = some (.int .i64 m) := by simpa using hc
   rw [e] at this
   simpa using this
 unfold memOf
 rw [hh,this]
theorem strs_wOk {H : Type} {P : Program} {t : TypeId} {l : List UInt8} (h : wOk P t (.lit (.string l) : DataW H)) : l.length ≤ reachBytes := h _ (by simp [DataW.weights])
section
variable {H : Type} {enc : TypeId × Value → H} {W : World}
theorem rg_stringB {P : Program} {t : TypeId} (ht : P.underlying t = some .string) : Rg enc P W t 1 (fun l : List UInt8 => [IV.str l]) (fun l => l.length ≤ 4611686018427387904) := fun n cs d p h _ hw => by
 obtain ⟨s,rfl,hx,_⟩ := DataW.trod_string ht h
 simp only [Prod.mk.injEq] at hx
 obtain ⟨rfl,rfl⟩ := hx
 have := strs_wOk hw
 exact ⟨s.data.toList,⟨_,_,rfl,by show _ = _;rw [bS_list],rfl⟩,fun u hu => by simp at hu;subst hu;rfl,Nat.le_trans this (by decide)⟩
end
end Go.Proofs.YtjgmbgfcffnanaaGreatDoor
