/- The walks over package vals and its reference: values of operands, and the laws of chapter 1. -/
import Derived.Test.YtjgmbgfcffnanacVals
import Derived.Deep.RegionHeld3
namespace Go.Proofs.Ytjgmbgfcffnanac
open Go.RowKit

theorem Sl.int {w : World} {A : Option Addr} {xs : List Int} (h : Sl 1 encI w A xs) {i : Nat} (hi : i < xs.length) :
    ∃ b o x, A = some ⟨b, o, none⟩ ∧ b < w.heap.size ∧ Hid (xs[i]? = some x) ∧ w.cell? ⟨b, o + i, none⟩ = some (.int .i64 x) := by
  have hx : xs[i]? = some xs[i] := List.getElem?_eq_getElem hi
  obtain ⟨b, o, hA, hb, hc⟩ := h.at_ hx
  refine ⟨b, o, xs[i], hA, hb, hx, ?_⟩
  have := hc 0 _ rfl
  simpa using this
theorem getD_of {α : Type} {xs : List α} {i : Nat} {x d : α} (h : xs[i]? = some x) : xs.getD i d = x := by rw [List.getD_eq_getElem?_getD, h]; rfl

theorem below_boxed {w w1 : World} {o : Obj} (h : Below (w.alloc o).heap.size (w.alloc o) w1) : Below w.heap.size w w1 :=
  ((Below.refl _ _).alloc (Nat.le_refl _) _).trans (h.mono (by simp))

set_option maxHeartbeats 400000 in
theorem vals_Value (k n : Int) (A : Option Addr) (len c : Nat) (xs : List Int) (w : World) (hl : len ≤ 9223372036854775807) (hs : Rd 1 encI w A len xs) :
    Calls Try.prog 121 #[.agg #[.int .i64 k, .int .i64 n], .slice A len c] w fun e w' => e = .returned (.tuple #[.int .i64 (valueN k n xs), .int .i64 (checkOp k n len)]) ∧ Below w.heap.size w w' := by
  obtain ⟨hlen, hs⟩ := hs
  subst hlen
  by_cases h0 : checkOp k n xs.length = 0
  · obtain ⟨_, _, hk⟩ := checkOp_zero h0
    have he : (checkOp k n xs.length != 0) = false := by simp [h0]
    rcases hk with rfl | ⟨rfl, h1, h2⟩
    · have hv := Lib.hid (show valueN 1 n xs = n by simp [valueN, h0, valueOf])
      have hz := Lib.hid h0
      clear h0
      go_enter Try.func121, Try.ntmps121
      go_wp2_with (go_at_call 101; refine (vals_Check _ _ _ _).mono ?_; rintro e w1 ⟨rfl, hb1⟩; obtain ⟨hc1, hf1⟩ := bcell hb1)
      go_ret2
      exact ⟨retII hv.out.symm hz.out.symm, below_boxed hb1⟩
    · obtain ⟨m, rfl⟩ := Int.eq_ofNat_of_zero_le h1
      have hm : m < xs.length := by omega
      obtain ⟨b, o, x, rfl, hb, hx, hc⟩ := hs.int hm
      have hv := Lib.hid (show valueN 2 m xs = x by have := getD_of (d := 0) hx.out; simp only [valueN, h0, valueOf, if_true, Int.toNat_natCast]; exact this)
      have hz := Lib.hid h0
      clear h0
      go_enter Try.func121, Try.ntmps121
      go_wp2_with (go_at_call 101; refine (vals_Check _ _ _ _).mono ?_; rintro e w1 ⟨rfl, hb1⟩; obtain ⟨hc1, hf1⟩ := bcell hb1)
      go_ret2
      exact ⟨retII hv.out.symm hz.out.symm, below_boxed hb1⟩
  · have he : (checkOp k n xs.length != 0) = true := by simp [h0]
    have hv := Lib.hid (show valueN k n xs = 0 by simp [valueN, h0])
    clear h0
    go_enter Try.func121, Try.ntmps121
    go_wp2_with (go_at_call 101; refine (vals_Check _ _ _ _).mono ?_; rintro e w1 ⟨rfl, hb1⟩)
    go_ret2
    exact ⟨retII hv.out.symm rfl, below_boxed hb1⟩


set_option maxHeartbeats 400000 in
theorem ref_ValueOf (k n : Int) (A : Option Addr) (len c : Nat) (xs : List Int) (w : World) (hl : len ≤ 9223372036854775807) (hs : Rd 1 encI w A len xs) (h0 : checkOp k n len = 0) :
    Calls Try.prog 103 #[.agg #[.int .i64 k, .int .i64 n], .slice A len c] w fun e w' => e = .returned (.int .i64 (valueOf k n xs)) ∧ Below w.heap.size w w' := by
  obtain ⟨hlen, hs⟩ := hs
  subst hlen
  obtain ⟨_, _, hk⟩ := checkOp_zero h0
  clear h0
  rcases hk with rfl | ⟨rfl, h1, h2⟩
  · go_enter Try.func103, Try.ntmps103
    go_wp2
    go_ret
    exact ⟨rfl, (Below.refl _ _).alloc (Nat.le_refl _) _⟩
  · obtain ⟨m, rfl⟩ := Int.eq_ofNat_of_zero_le h1
    have hm : m < xs.length := by omega
    obtain ⟨b, o, x, rfl, hb, hx, hc⟩ := hs.int hm
    have hv := Lib.hid (show valueOf 2 m xs = x by have := getD_of (d := 0) hx.out; simp only [valueOf, Int.toNat_natCast]; exact this)
    go_enter Try.func103, Try.ntmps103
    go_wp2
    go_ret
    exact ⟨retI hv.out.symm, (Below.refl _ _).alloc (Nat.le_refl _) _⟩

/- chapter 1's laws -/
theorem back_eq {a b : Int} (ha : I64 a) : wrap64 (wrap64 (a + b) - b) = a := by
  unfold I64 at ha; unfold wrap64; omega

end Go.Proofs.Ytjgmbgfcffnanac
