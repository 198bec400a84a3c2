/- The plain law's side of running a transaction; slices.Clone at ints; the closure that reads an operand. No condition. -/
import Derived.Test.YtjgmbgfcffnanacTxns
import Derived.Lib.SliceRun
namespace Go.Proofs.Ytjgmbgfcffnanac
open Go.RowKit

def val (xs : List Int) (o : Operand) : Int := valueOf o.kind o.n xs
def gHold (xs : List Int) (g : Guard) : Bool := holdsB g.kind (val xs g.a) (val xs g.b)
def sVal (xs : List Int) (s : SetT) : Int := reckonN s.op (val xs s.a) (val xs s.b)
def runDone (t : Txn) (xs : List Int) : Bool := t.guards.all (gHold xs)
def runSets (t : Txn) (xs : List Int) : List Int := if runDone t xs then t.sets.map (sVal xs) else []

/- a right transaction's parts -/
theorem right_parts {t : Txn} (h : checkTxn t = 0) : sizesOk t ∧ (∀ k ∈ t.reads ++ keysOf t, isKeyB k = true) ∧ (rising t.reads && rising (keysOf t)) = true ∧
    (∀ g ∈ t.guards, holdsE g.kind = 0 ∧ checkOp g.a.kind g.a.n t.reads.length = 0 ∧ checkOp g.b.kind g.b.n t.reads.length = 0) ∧
    (∀ s ∈ t.sets, reckonE s.op = 0 ∧ checkOp s.a.kind s.a.n t.reads.length = 0 ∧ checkOp s.b.kind s.b.n t.reads.length = 0) := by
  unfold checkTxn at h
  by_cases h1 : sizesOk t
  · rw [if_pos h1] at h
    by_cases h2 : (t.reads ++ keysOf t).all isKeyB = true
    · rw [if_pos h2] at h
      by_cases h3 : (rising t.reads && rising (keysOf t)) = true
      · rw [if_pos h3] at h
        have h4 := fe_zero.1 h
        refine ⟨h1, List.all_eq_true.1 h2, h3, fun g hg => ?_, fun s hs => ?_⟩
        · have := fun x hx => h4 x (List.mem_append_left _ (List.mem_flatMap.2 ⟨g, hg, hx⟩))
          exact ⟨this _ (by simp [gErrs]), this _ (by simp [gErrs]), this _ (by simp [gErrs])⟩
        · have := fun x hx => h4 x (List.mem_append_right _ (List.mem_flatMap.2 ⟨s, hs, hx⟩))
          exact ⟨this _ (by simp [sErrs]), this _ (by simp [sErrs]), this _ (by simp [sErrs])⟩
      · rw [if_neg h3] at h; cases h
    · rw [if_neg h2] at h; cases h
  · rw [if_neg h1] at h; cases h

/- an empty row of the call's own, not nil -/
theorem Own.empty {α : Type} {E k : Nat} {enc : α → List Value} (w : World) {B b : Nat} (hb : b = w.heap.size) (hB : B ≤ b) : Own E k enc (w.alloc (.cells #[] E)) B (.slice (some ⟨b, 0, none⟩) 0 0) ([] : List α) := by
  subst hb
  exact Own.zero (heap_alloc_new w _) hB (by simp [maxLen]) (by simp)

set_option maxRecDepth 100000 in
set_option maxHeartbeats 1000000 in
theorem slices_Clone_int (A n c) (xs : List Int) (w : World) (h : Rd 1 encI w A n xs) (hn : n ≤ 8796093022208) :
    Calls Try.prog 70 #[.slice A n c] w fun e w' => ∃ v, e = .returned v ∧ Own 3 1 encI w' w.heap.size v xs ∧ Below w.heap.size w w' := by
  obtain ⟨i0, hi0, hz0, hz1, hz2⟩ := info_parts intInfo
  have hq : ∀ (w : World) (a : Option Addr) (n c n' c' : Nat), (binOp .eql 25 (.slice a n c) (.slice none n' c')).run Try.prog w = .ok (.bool a.isNone) w := fun w a n c n' c' => Lib.run_eql_slice_nil w _ _ a n c n' c' Try.underlying25
  rcases A with _ | ad
  · have hxs : xs = [] := by
      rcases h.2 with rfl | ⟨b, o, hA, _⟩
      · rfl
      · cases hA
    subst hxs
    go_enter Try.func70, Try.ntmps70
    go_wp2
    go_ret
    exact ⟨_, rfl, Own.nil, Below.refl _ _⟩
  · go_enter Try.func70, Try.ntmps70
    go_wp2_with (at_builtin; refine wpList_append_rd rfl _ _ _ rfl w.heap.size 3 i0 (.int .i64 0) 1 8 Try.underlying25 hi0 hz0 hz1 hz2 rfl (by decide) encI_len oneI _ [] rfl (Own.empty w rfl (Nat.le_refl _)) (some ad) n c xs rfl (h.alloc _) (by simp only [List.length_nil]; unfold maxLen; omega) (by simp only [List.length_nil]; omega) (by simp) ?_; intro v2 w2 hv2 hg2; have hb2 := (Own.empty (α := Int) (E := 3) (k := 1) (enc := encI) w rfl (Nat.le_refl _)).frame (Bel.alloc (Below.refl _ _) _) (Nat.le_refl _) hg2; rw [List.nil_append] at hv2)
    go_ret
    exact ⟨_, rfl, hv2, hb2⟩

set_option maxRecDepth 100000 in
set_option maxHeartbeats 1000000 in
theorem txn_Do_value (k m : Int) (p : Nat) (A n c) (xs : List Int) (w : World) (hp : p < w.heap.size) (hc : w.cell? ⟨p, 0, none⟩ = some (.slice A n c)) (hl : n ≤ 9223372036854775807) (h : Rd 1 encI w A n xs) (h0 : checkOp k m n = 0) :
    Calls Try.prog 120 #[.agg #[.int .i64 k, .int .i64 m], .pointer (some ⟨p, 0, none⟩)] w fun e w' => e = .returned (.int .i64 (valueOf k m xs)) ∧ Below w.heap.size w w' := by
  have hv : Hid (valueN k m xs = valueOf k m xs) := by show valueN _ _ _ = _; rw [valueN, h.1, if_pos h0]
  have hlt : p < w.heap.size + 1 := by omega
  have hlt2 : p ≠ w.heap.size := by omega
  go_enter Try.func120, Try.ntmps120
  go_wp2_with (go_at_call 121; refine (vals_Value _ _ _ _ _ xs _ hl (h.alloc _)).mono ?_; rintro e w1 ⟨rfl, hb⟩)
  go_ret
  exact ⟨retI hv.out, Bel.step (Bel.alloc (Below.refl _ _) _) hb⟩

end Go.Proofs.Ytjgmbgfcffnanac
