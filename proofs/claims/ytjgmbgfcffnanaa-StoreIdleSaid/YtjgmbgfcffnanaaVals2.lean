/- The walks over package vals and its reference: values of operands, and the laws of chapter 1. -/
import Derived.Test.YtjgmbgfcffnanaaVals
import Derived.Deep.RegionHeld3
namespace Go.Proofs.Ytjgmbgfcffnanaa
open Go.RowKit

theorem Sl.int {w : World} {A : Option Addr} {xs : List Int} (h : Sl 1 encI w A xs) {i : Nat} (hi : i < xs.length) :
    ∃ b o x, A = some ⟨b, o, none⟩ ∧ b < w.heap.size ∧ Hid (xs[i]? = some x) ∧ w.cell? ⟨b, o + i, none⟩ = some (.int .i64 x) := by
  have hx : xs[i]? = some xs[i] := List.getElem?_eq_getElem hi
  obtain ⟨b, o, hA, hb, hc⟩ := h.at_ hx
  refine ⟨b, o, xs[i], hA, hb, hx, ?_⟩
  have := hc 0 _ rfl
  simpa using this
theorem getD_of {α : Type} {xs : List α} {i : Nat} {x d : α} (h : xs[i]? = some x) : xs.getD i d = x := by rw [List.getD_eq_getElem?_getD, h]; rfl

theorem below_boxed {w w1 : World} {o : Obj} (h : Below (w.alloc o).heap.size (w.alloc o) w1) : Below w.heap.size w w1 :=
  ((Below.refl _ _).alloc (Nat.le_refl _) _).trans (h.mono (by simp))

set_option maxHeartbeats 400000 in
theorem vals_Value (k n : Int) (A : Option Addr) (len c : Nat) (xs : List Int) (w : World) (hl : len ≤ 9223372036854775807) (hs : Rd 1 encI w A len xs) :
    Calls Try.prog 14 #[.agg #[.int .i64 k, .int .i64 n], .slice A len c] w fun e w' => e = .returned (.tuple #[.int .i64 (valueN k n xs), .int .i64 (checkOp k n len)]) ∧ Below w.heap.size w w' := by
  obtain ⟨hlen, hs⟩ := hs
  subst hlen
  by_cases h0 : checkOp k n xs.length = 0
  · obtain ⟨_, _, hk⟩ := checkOp_zero h0
    have he : (checkOp k n xs.length != 0) = false := by simp [h0]
    rcases hk with rfl | ⟨rfl, h1, h2⟩
    · have hv := Lib.hid (show valueN 1 n xs = n by simp [valueN, h0, valueOf])
      have hz := Lib.hid h0
      clear h0
      go_enter Try.func14, Try.ntmps14
      go_wp2_with (go_at_call 18; refine (vals_Check _ _ _ _).mono ?_; rintro e w1 ⟨rfl, hb1⟩; obtain ⟨hc1, hf1⟩ := bcell hb1)
      go_ret2
      exact ⟨retII hv.out.symm hz.out.symm, below_boxed hb1⟩
    · obtain ⟨m, rfl⟩ := Int.eq_ofNat_of_zero_le h1
      have hm : m < xs.length := by omega
      obtain ⟨b, o, x, rfl, hb, hx, hc⟩ := hs.int hm
      have hv := Lib.hid (show valueN 2 m xs = x by have := getD_of (d := 0) hx.out; simp only [valueN, h0, valueOf, if_true, Int.toNat_natCast]; exact this)
      have hz := Lib.hid h0
      clear h0
      go_enter Try.func14, Try.ntmps14
      go_wp2_with (go_at_call 18; refine (vals_Check _ _ _ _).mono ?_; rintro e w1 ⟨rfl, hb1⟩; obtain ⟨hc1, hf1⟩ := bcell hb1)
      go_ret2
      exact ⟨retII hv.out.symm hz.out.symm, below_boxed hb1⟩
  · have he : (checkOp k n xs.length != 0) = true := by simp [h0]
    have hv := Lib.hid (show valueN k n xs = 0 by simp [valueN, h0])
    clear h0
    go_enter Try.func14, Try.ntmps14
    go_wp2_with (go_at_call 18; refine (vals_Check _ _ _ _).mono ?_; rintro e w1 ⟨rfl, hb1⟩)
    go_ret2
    exact ⟨retII hv.out.symm rfl, below_boxed hb1⟩


set_option maxHeartbeats 400000 in
theorem ref_ValueOf (k n : Int) (A : Option Addr) (len c : Nat) (xs : List Int) (w : World) (hl : len ≤ 9223372036854775807) (hs : Rd 1 encI w A len xs) (h0 : checkOp k n len = 0) :
    Calls Try.prog 16 #[.agg #[.int .i64 k, .int .i64 n], .slice A len c] w fun e w' => e = .returned (.int .i64 (valueOf k n xs)) ∧ Below w.heap.size w w' := by
  obtain ⟨hlen, hs⟩ := hs
  subst hlen
  obtain ⟨_, _, hk⟩ := checkOp_zero h0
  clear h0
  rcases hk with rfl | ⟨rfl, h1, h2⟩
  · go_enter Try.func16, Try.ntmps16
    go_wp2
    go_ret
    exact ⟨rfl, (Below.refl _ _).alloc (Nat.le_refl _) _⟩
  · obtain ⟨m, rfl⟩ := Int.eq_ofNat_of_zero_le h1
    have hm : m < xs.length := by omega
    obtain ⟨b, o, x, rfl, hb, hx, hc⟩ := hs.int hm
    have hv := Lib.hid (show valueOf 2 m xs = x by have := getD_of (d := 0) hx.out; simp only [valueOf, Int.toNat_natCast]; exact this)
    go_enter Try.func16, Try.ntmps16
    go_wp2
    go_ret
    exact ⟨retI hv.out.symm, (Below.refl _ _).alloc (Nat.le_refl _) _⟩

set_option maxRecDepth 100000 in
set_option maxHeartbeats 1000000 in
theorem vals_begun (w : World) :
    Calls Try.prog 17 #[] w fun e w' => e = .returned (.bool true) ∧ Below w.heap.size w w' := by
  have e1 : valueN 2 1 [4, 5] = 5 := rfl
  have e2 : checkOp 2 1 2 = 0 := rfl
  have e3 : reckonN 6 3 7 = 7 := rfl
  have e4 : reckonE 6 = 0 := rfl
  have e5 : holdsB 4 3 3 = true := rfl
  have e6 : holdsE 4 = 0 := rfl
  have e7 : checkOp 2 2 2 = 3 := rfl
  have e8 : reckonE 7 = 4 := rfl
  have e9 : checkOp 1 9 5 = 3 := rfl
  have e10 : checkOp 0 0 1 = 4 := rfl
  go_enter Try.func17, Try.ntmps17
  go_wp2_with (first
    | (go_at_call 18; refine (vals_Check _ _ _ _).mono ?_; rintro e w' ⟨rfl, hb⟩)
    | (go_at_call 14; refine (vals_Value _ _ _ 2 _ [4, 5] _ (by omega) (by exact Rd.new _ encI_len (by simp) rfl rfl)).mono ?_; rintro e w' ⟨rfl, hb⟩)
    | (go_at_call 19; refine (vals_Reckon _ _ _ _).mono ?_; rintro e w' ⟨rfl, hb⟩)
    | (go_at_call 20; refine (vals_Holds _ _ _ _).mono ?_; rintro e w' ⟨rfl, rfl⟩)
    | go_in)
  go_ret
  exact ⟨rfl, (by repeat (first | exact Below.refl _ _ | refine Bel.step ?_ (by assumption) | refine Bel.alloc ?_ _ | refine Bel.drew ?_ | refine Bel.drewN ?_ _))⟩

/- chapter 1's laws -/
set_option maxRecDepth 100000 in
set_option maxHeartbeats 1000000 in
theorem law_ValsTells (k n r : Int) (A : Option Addr) (len c : Nat) (xs : List Int) (w : World) (hl : len ≤ 9223372036854775807) (hs : Rd 1 encI w A len xs) :
    Calls Try.prog 3 #[.agg #[.int .i64 k, .int .i64 n], .int .i64 r, .slice A len c] w fun e w' => e = .returned (.bool true) ∧ Below w.heap.size w w' := by
  have HB := Below.refl (w.alloc (.cells #[.int .i64 k, .int .i64 n] 23)).heap.size (w.alloc (.cells #[.int .i64 k, .int .i64 n] 23))
  have HC : True := trivial
  replace hs := hs.alloc (.cells #[.int .i64 k, .int .i64 n] 23)
  by_cases h0 : checkOp k n len = 0
  all_goals
    have H0 := Lib.hid h0
    first
      | have hv : (valueN k n xs == valueOf k n xs) = true := by unfold valueN; rw [hs.1, if_pos h0]; simp
      | have hv : (valueN k n xs == 0) = true := by unfold valueN; rw [hs.1, if_neg h0]; simp
    go_enter Try.func3, Try.ntmps3
    go_wp2_with (first
      | (go_at_call 18; refine (vals_Check _ _ _ _).mono ?_; rintro e w' ⟨rfl, hb⟩; replace HB := Bel.step (by repeat (first | exact HB | refine Bel.alloc ?_ _ | refine Bel.drew ?_ | refine Bel.drewN ?_ _)) hb; replace HC := bcell HB; clear hb)
      | (go_at_call 14; refine (vals_Value _ _ _ _ _ xs _ hl (by repeat (first | assumption | exact Rd.below (by assumption) HB | refine Rd.alloc ?_ _ | refine Rd.drew ?_ | refine Rd.drewN ?_ _))).mono ?_; rintro e w' ⟨rfl, hb⟩; replace HB := Bel.step (by repeat (first | exact HB | refine Bel.alloc ?_ _ | refine Bel.drew ?_ | refine Bel.drewN ?_ _)) hb; replace HC := bcell HB; clear hb)
      | (go_at_call 15; refine (ref_CheckOperand _ _ _ _).mono ?_; rintro e w' ⟨rfl, hb⟩; replace HB := Bel.step (by repeat (first | exact HB | refine Bel.alloc ?_ _ | refine Bel.drew ?_ | refine Bel.drewN ?_ _)) hb; replace HC := bcell HB; clear hb)
      | (go_at_call 16; refine (ref_ValueOf _ _ _ _ _ xs _ hl (by repeat (first | assumption | exact Rd.below (by assumption) HB | refine Rd.alloc ?_ _ | refine Rd.drew ?_ | refine Rd.drewN ?_ _)) H0.out).mono ?_; rintro e w' ⟨rfl, hb⟩; replace HB := Bel.step (by repeat (first | exact HB | refine Bel.alloc ?_ _ | refine Bel.drew ?_ | refine Bel.drewN ?_ _)) hb; replace HC := bcell HB; clear hb)
      | (go_at_call 17; refine (vals_begun _).mono ?_; rintro e w' ⟨rfl, hb⟩; replace HB := Bel.step (by repeat (first | exact HB | refine Bel.alloc ?_ _ | refine Bel.drew ?_ | refine Bel.drewN ?_ _)) hb; replace HC := bcell HB; clear hb))
    all_goals
      go_region_held3 (fun W => Below (w.alloc (.cells #[.int .i64 k, .int .i64 n] 23)).heap.size (w.alloc (.cells #[.int .i64 k, .int .i64 n] 23)) W ∧ W.cell? ⟨w.heap.size, 0, none⟩ = some (.int .i64 k) ∧ W.cell? ⟨w.heap.size, 1, none⟩ = some (.int .i64 n))
        (first | (refine ⟨HR, ?_⟩; (repeat' apply And.intro) <;> (refine (HR.cell (by simp)).trans ?_; simp [World.cell?_alloc_new]; done)) | (refine ⟨HB.drew, ?_⟩; (repeat' apply And.intro) <;> (refine (HB.drew.cell (by simp)).trans ?_; simp [World.cell?_alloc_new]; done)))
        (first
          | (go_at_call 18; refine (vals_Check _ _ _ _).mono ?_; rintro e w' ⟨rfl, hb⟩; have HR := Rg.step (by assumption) hb)
          | (go_at_call 15; refine (ref_CheckOperand _ _ _ _).mono ?_; rintro e w' ⟨rfl, hb⟩; have HR := Rg.step (by assumption) hb)
          | (go_at_call 17; refine (vals_begun _).mono ?_; rintro e w' ⟨rfl, hb⟩; have HR := Rg.step (by assumption) hb))
    all_goals go_wp2
    all_goals
      go_ret
      exact ⟨rfl, below_boxed HR⟩


set_option maxRecDepth 100000 in
set_option maxHeartbeats 1000000 in
theorem law_ValsReckons (op k a b : Int) (w : World) :
    Calls Try.prog 4 #[.int .i64 op, .int .i64 k, .int .i64 a, .int .i64 b] w fun e w' => e = .returned (.bool true) ∧ Below w.heap.size w w' := by
  have HB := Below.refl w.heap.size w
  have HC : True := trivial
  go_enter Try.func4, Try.ntmps4
  go_wp2_with (first
    | (go_at_call 19; refine (vals_Reckon _ _ _ _).mono ?_; rintro e w' ⟨rfl, hb⟩; replace HB := Bel.step (by repeat (first | exact HB | refine Bel.alloc ?_ _ | refine Bel.drew ?_ | refine Bel.drewN ?_ _)) hb; replace HC := bcell HB; clear hb)
    | (go_at_call 20; refine (vals_Holds _ _ _ _).mono ?_; rintro e w' ⟨rfl, rfl⟩)
    | (go_at_call 21; refine (ref_ReckonOf _ _ _ _).mono ?_; rintro e w' ⟨rfl, rfl⟩)
    | (go_at_call 22; refine (ref_HoldsOf _ _ _ _).mono ?_; rintro e w' ⟨rfl, rfl⟩)
    | (go_at_call 17; refine (vals_begun _).mono ?_; rintro e w' ⟨rfl, hb⟩; replace HB := Bel.step (by repeat (first | exact HB | refine Bel.alloc ?_ _ | refine Bel.drew ?_ | refine Bel.drewN ?_ _)) hb; replace HC := bcell HB; clear hb))
  go_ret
  exact ⟨rfl, HB⟩

theorem back_eq {a b : Int} (ha : I64 a) : wrap64 (wrap64 (a + b) - b) = a := by
  unfold I64 at ha; unfold wrap64; omega

set_option maxRecDepth 100000 in
set_option maxHeartbeats 1000000 in
theorem law_ValsTrue (a b : Int) (ha : I64 a) (w : World) :
    Calls Try.prog 5 #[.int .i64 a, .int .i64 b] w fun e w' => e = .returned (.bool true) ∧ Below w.heap.size w w' := by
  have HB := Below.refl w.heap.size w
  have HC : True := trivial
  have e2 : reckonE 2 = 0 := rfl
  have e3 : reckonE 3 = 0 := rfl
  have e5 : reckonE 5 = 0 := rfl
  have e6 : reckonE 6 = 0 := rfl
  have g1 : holdsE 1 = 0 := rfl
  have g2 : holdsE 2 = 0 := rfl
  have g3 : holdsE 3 = 0 := rfl
  have g4 : holdsE 4 = 0 := rfl
  have n3 : reckonN 3 (reckonN 2 a b) b = a := back_eq ha
  rcases Int.lt_trichotomy a b with h | h | h
  · have n5 : reckonN 5 a b = a := min_l (by omega)
    have n6 : reckonN 6 a b = b := max_r (by omega)
    have b1 : holdsB 1 a b = false := by simp [holdsB]; omega
    have b2 : holdsB 2 a b = true := by simp [holdsB]; omega
    have b3 : holdsB 3 a b = true := by simp [holdsB]; omega
    have b4 : holdsB 4 a b = true := by simp [holdsB]; omega
    have h1 : a ≤ b := by omega
    go_enter Try.func5, Try.ntmps5
    go_wp2_with (first
      | (go_at_call 19; refine (vals_Reckon _ _ _ _).mono ?_; rintro e w' ⟨rfl, hb⟩; replace HB := Bel.step (by repeat (first | exact HB | refine Bel.alloc ?_ _ | refine Bel.drew ?_ | refine Bel.drewN ?_ _)) hb; replace HC := bcell HB; clear hb)
      | (go_at_call 20; refine (vals_Holds _ _ _ _).mono ?_; rintro e w' ⟨rfl, rfl⟩)
      | (go_at_call 17; refine (vals_begun _).mono ?_; rintro e w' ⟨rfl, hb⟩; replace HB := Bel.step (by repeat (first | exact HB | refine Bel.alloc ?_ _ | refine Bel.drew ?_ | refine Bel.drewN ?_ _)) hb; replace HC := bcell HB; clear hb))
    go_ret
    exact ⟨rfl, HB⟩
  · subst h
    have n5 : reckonN 5 a a = a := min_l (by omega)
    have n6 : reckonN 6 a a = a := max_l (by omega)
    have b1 : holdsB 1 a a = true := by simp [holdsB]
    have b2 : holdsB 2 a a = false := by simp [holdsB]
    have b3 : holdsB 3 a a = false := by simp [holdsB]
    have b4 : holdsB 4 a a = true := by simp [holdsB]
    go_enter Try.func5, Try.ntmps5
    go_wp2_with (first
      | (go_at_call 19; refine (vals_Reckon _ _ _ _).mono ?_; rintro e w' ⟨rfl, hb⟩; replace HB := Bel.step (by repeat (first | exact HB | refine Bel.alloc ?_ _ | refine Bel.drew ?_ | refine Bel.drewN ?_ _)) hb; replace HC := bcell HB; clear hb)
      | (go_at_call 20; refine (vals_Holds _ _ _ _).mono ?_; rintro e w' ⟨rfl, rfl⟩)
      | (go_at_call 17; refine (vals_begun _).mono ?_; rintro e w' ⟨rfl, hb⟩; replace HB := Bel.step (by repeat (first | exact HB | refine Bel.alloc ?_ _ | refine Bel.drew ?_ | refine Bel.drewN ?_ _)) hb; replace HC := bcell HB; clear hb))
    go_ret
    exact ⟨rfl, HB⟩
  · have n5 : reckonN 5 a b = b := min_r (by omega)
    have n6 : reckonN 6 a b = a := max_l (by omega)
    have b1 : holdsB 1 a b = false := by simp [holdsB]; omega
    have b2 : holdsB 2 a b = true := by simp [holdsB]; omega
    have b3 : holdsB 3 a b = false := by simp [holdsB]; omega
    have b4 : holdsB 4 a b = false := by simp [holdsB]; omega
    have h1 : b ≤ a := by omega
    have h2 : (b == a) = false := by simp; omega
    have h3 : (a == b) = false := by simp; omega
    go_enter Try.func5, Try.ntmps5
    go_wp2_with (first
      | (go_at_call 19; refine (vals_Reckon _ _ _ _).mono ?_; rintro e w' ⟨rfl, hb⟩; replace HB := Bel.step (by repeat (first | exact HB | refine Bel.alloc ?_ _ | refine Bel.drew ?_ | refine Bel.drewN ?_ _)) hb; replace HC := bcell HB; clear hb)
      | (go_at_call 20; refine (vals_Holds _ _ _ _).mono ?_; rintro e w' ⟨rfl, rfl⟩)
      | (go_at_call 17; refine (vals_begun _).mono ?_; rintro e w' ⟨rfl, hb⟩; replace HB := Bel.step (by repeat (first | exact HB | refine Bel.alloc ?_ _ | refine Bel.drew ?_ | refine Bel.drewN ?_ _)) hb; replace HC := bcell HB; clear hb))
    go_ret
    exact ⟨rfl, HB⟩

end Go.Proofs.Ytjgmbgfcffnanaa
