/- A region that draws its order in a function that defers, where its last operation may panic: the post at a panic, freed of the frame. No condition. -/
import Derived.Test.YtjgmbgfcffnanacMem3
import Derived.Deep.RegionHeld3
namespace Go.Proofs.Ytjgmbgfcffnanac
open Go.RowKit

/- Q, but at a panic: R, and the deferred calls D -/
def QFree (R : List PanicEntry → World → Prop) (D : List Deferred) (Q : Exit → Act → World → Prop) : Exit → Act → World → Prop
  | .panic c, a, w => R c w ∧ a.defers = D
  | e, a, w => Q e a w

theorem put_slot {a : Act} {d : Option Tmp} {v u : Value} {s : Nat} (hs : a.tmps[s]? = some u) (hd : d ≠ some s) : (a.put d v).tmps[s]? = some u := by
  cases d with
  | none => exact hs
  | some d =>
    have hne : d ≠ s := fun e => hd (by rw [e])
    show (a.tmps.setIfInBounds d v)[s]? = some u
    rw [Array.getElem?_setIfInBounds, if_neg hne]
    exact hs

section
variable {P : Program} {ops : Array Oper} {Q : Exit → Act → World → Prop} {md : Region.Mode} {R : List PanicEntry → World → Prop} {D : List Deferred} {s : Nat} {u : Value}
theorem letsOut_free (h : LetsOut (QFree R D Q)) : LetsOut Q := by
  obtain ⟨a, w, hq⟩ := h
  exact ⟨a, w, hq⟩

theorem oper_free (hR : ∀ c a w, a.tmps[s]? = some u → R c w → a.defers = D → Q (.panic c) a w) {o : Oper} (hd : o.dst ≠ some s) {a : Act} {w : World} (hs : a.tmps[s]? = some u) {K K' : Act → World → Prop}
    (hK : ∀ a w, a.tmps[s]? = some u → K a w → K' a w) (h : o.wp P a w K (QFree R D Q)) : o.wp P a w K' Q := by
  unfold Oper.wp at *
  generalize (execOp a.eval o).run P w = r at *
  cases r with
  | ok n w' =>
    cases n with
    | value v => exact hK _ _ (put_slot hs hd) h
    | skip => exact hK _ _ (put_slot hs hd) h
    | defer d => exact hK _ _ (put_slot (a := { a with defers := d :: a.defers }) hs hd) h
    | enter f args =>
      refine Calls.mono h (fun e w'' he => ?_)
      cases e with
      | returned v => exact hK _ _ (put_slot hs hd) he
      | panicked c => exact hR c a w'' hs he.1 he.2
      | outgrown => exact letsOut_free he
    | row row args => exact Rows.mono h (fun _ _ he => hK _ _ (put_slot hs hd) he)
    | _ => exact h
  | halt x w' =>
    cases x with
    | panic v => exact hR _ a w' hs h.1 h.2
    | _ => exact h

theorem wpAny_free (hR : ∀ c a w, a.tmps[s]? = some u → R c w → a.defers = D → Q (.panic c) a w) (hd : ∀ (i : Nat) (o : Oper), ops[i]? = some o → o.dst ≠ some s) :
    ∀ (fuel : Nat) (listed : Array Bool) (a : Act) (w : World), a.tmps[s]? = some u → wpAny P md ops (QFree R D Q) fuel listed a w → wpAny P md ops Q fuel listed a w
  | 0, _, _, _, _, h => h
  | fuel + 1, listed, a, w, hs, h => by
    refine ⟨h.1, fun i hi => ?_⟩
    have h2 := h.2 i hi
    unfold wpOp at *
    cases ho : ops[i]? with
    | none => simp only [ho] at h2 ⊢; exact wpAny_free hR hd fuel _ a w hs h2
    | some o =>
      simp only [ho] at h2 ⊢
      split
      · rename_i hw
        simp only [hw, if_true] at h2
        rcases h2 with h2 | h2
        · exact .inl (oper_free hR (hd i o ho) hs (fun a w hs' hk => wpAny_free hR hd fuel _ a w hs' hk) h2)
        · exact .inr ⟨h2.1, letsOut_free h2.2⟩
      · rename_i hw
        simp only [hw, if_false, Bool.false_eq_true] at h2
        exact wpAny_free hR hd fuel _ _ _ (put_slot hs (hd i o ho)) h2

theorem wp_region_free {S : World → Prop} {id : Nat} {a : Act} {w : World} (hm : P.follows .mixedOrders = true) (hd : (ops.toList.all fun o : Oper => o.dst != some s) = true) (hs : a.tmps[s]? = some u)
    (hR : ∀ c a w, a.tmps[s]? = some u → R c w → a.defers = D → Q (.panic c) a w) (hS : S w.drew) (h : S w.drew → wpAnyH P .any ops (QFree R D Q) S ops.size (Array.replicate ops.size false) a w.drew) : (Code.region id ops true).wp P Q a w := by
  refine wp_region_any hm (wpAny_free hR (fun i o ho => ?_) _ _ _ _ hs (wpAny_of_held _ _ _ _ (h hS)))
  have := List.all_eq_true.1 hd o (by have := Array.mem_of_getElem? ho; exact Array.mem_toList_iff.2 this)
  simpa using this
end

end Go.Proofs.Ytjgmbgfcffnanac
