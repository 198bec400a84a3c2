/- The walks over slices.Grow, slices.Concat at ints. -/
import Derived.Test.YtjgmbgfcffnanacMem3
import Derived.Lib.AppendZeros
import Derived.Lib.AppendZerosOnto
namespace Go.Proofs.Ytjgmbgfcffnanac
open Go.RowKit

theorem Own.zero {α : Type} {E k B : Nat} {enc : α → List Value} {w : World} {cur : Array Value} {cap g : Nat} (hg : w.heap[g]? = some (.cells cur E (0, 0))) (hB : B ≤ g) (hc : cap ≤ maxLen) (hcur : cur.size = cap * k) :
    Own E k enc w B (.slice (some ⟨g, 0, none⟩) 0 cap) ([] : List α) := by
  refine ⟨by simp, .inr ⟨g, cap, cur, rfl, hB, hg, Nat.zero_le _, hc, hcur, by simp⟩⟩

set_option maxRecDepth 100000 in
set_option maxHeartbeats 1000000 in
theorem slices_Grow_int (n : Nat) (w : World) (hn : n ≤ 17592186044416) :
    Calls Try.prog 128 #[.slice none 0 0, .int .i64 n] w fun e w' => ∃ v, e = .returned v ∧ Own 3 1 encI w' w.heap.size v [] ∧ Below w.heap.size w w' := by
  obtain ⟨i0, hi0, hz0, hz1, hz2⟩ := info_parts intInfo
  rcases Nat.eq_zero_or_pos n with h0 | hpos
  · subst h0
    go_enter Try.func128, Try.ntmps128
    go_wp2
    go_ret
    exact ⟨_, rfl, Own.nil, Below.refl _ _⟩
  · have hG := grownCap_ge w n 0 3
    have hGm := grownCap_le_maxLen w n 0 3 (by unfold maxLen; omega)
    have hrz : ∀ ty, (Builtin.append_ #[25, 3] ty #[.slice none 0 0, .int .i64 (n : Int)]).run Try.prog w =
        .ok (.slice (some ⟨w.heap.size, 0, none⟩) n (grownCap w n 0 3)) (w.drew.alloc (.cells (Builtin.zeroCells (Value.int .i64 0).cells n ++ Builtin.zeroCells (Value.int .i64 0).cells (grownCap w n 0 3 - n)) 3)) := fun ty =>
      Lib.run_append_nil_zeros w 25 3 ty 3 i0 (.int .i64 0) .i64 .i64 Try.underlying25 Try.underlying3 hi0 hz0 n hpos (by omega) (by omega) (by rw [hz2]; omega)
    obtain ⟨G, hGe⟩ : ∃ G, Hid (G = grownCap w n 0 3) := ⟨_, rfl⟩
    rw [← hGe.out] at hrz hG hGm
    have hsz : (Builtin.zeroCells (Value.int .i64 0).cells n ++ Builtin.zeroCells (Value.int .i64 0).cells (G - n)).size = G * 1 := by
      simp only [Array.size_append, size_zeroCells, Value.cells]; simp; omega
    obtain ⟨C, hC⟩ : ∃ C, C = (Builtin.zeroCells (Value.int .i64 0).cells n ++ Builtin.zeroCells (Value.int .i64 0).cells (G - n)) := ⟨_, rfl⟩
    rw [← hC] at hrz hsz
    clear hC
    have hown : Own 3 1 encI (w.drew.alloc (.cells C 3)) w.heap.size (.slice (some ⟨w.heap.size, 0, none⟩) 0 G) [] := Own.zero (heap_alloc_new w.drew _) (Nat.le_refl _) hGm hsz
    have hG2 : G ≤ 9223372036854775807 := by unfold maxLen at hGm; omega
    have hHid := Lib.hid hsz
    clear hsz
    go_enter Try.func128, Try.ntmps128
    go_wp2_with (at_builtin; refine Lib.wpList_append_run _ rfl _ _ _ _ rfl _ _ rfl rfl _ _ (hrz _) ?_)
    go_ret
    exact ⟨_, rfl, hown, Bel.alloc (Below.refl _ _).drew _⟩


set_option maxRecDepth 100000 in
set_option maxHeartbeats 1000000 in
theorem slices_Concat_int (g c A1 n1 c1 A2 n2 c2) (xs1 xs2 : List Int) (w : World) (hg : g < w.heap.size) (g0 : w.cell? ⟨g, 0, none⟩ = some (.slice A1 n1 c1)) (g1 : w.cell? ⟨g, 1, none⟩ = some (.slice A2 n2 c2))
    (h1 : Rd 1 encI w A1 n1 xs1) (h2 : Rd 1 encI w A2 n2 xs2) (hn : n1 + n2 ≤ 8796093022208) :
    Calls Try.prog 98 #[.slice (some ⟨g, 0, none⟩) 2 c] w fun e w' => ∃ v, e = .returned v ∧ Own 3 1 encI w' w.heap.size v (xs1 ++ xs2) ∧ Below w.heap.size w w' := by
  obtain ⟨i0, hi0, hz0, hz1, hz2⟩ := info_parts intInfo
  have HB := Below.refl w.heap.size w
  go_enter Try.func98, Try.ntmps98
  go_wp2
  refine wp_loop_rounds 3 ?_
  rw [rounds_succ]
  go_wp2
  rw [rounds_succ]
  go_wp2
  rw [rounds_succ]
  go_wp2_with (go_at_call 128; rw [show ((n1 : Int) + (n2 : Int)) = ((n1 + n2 : Nat) : Int) by omega]; refine (slices_Grow_int _ _ (by omega)).mono ?_; rintro e w1 ⟨v, rfl, hv, hb⟩)
  have k0 := (hb.cell (p := ⟨g, 0, none⟩) hg).trans g0
  have k1 := (hb.cell (p := ⟨g, 1, none⟩) hg).trans g1
  have r1 := h1.below hb
  refine wp_loop_rounds 3 ?_
  rw [rounds_succ]
  go_wp2_with (at_builtin; refine wpList_append_rd rfl _ _ _ rfl w.heap.size 3 i0 (.int .i64 0) 1 8 Try.underlying25 hi0 hz0 hz1 hz2 rfl (by decide) encI_len oneI v [] rfl hv A1 n1 c1 xs1 rfl r1 (by simp only [List.length_nil]; unfold maxLen; omega) (by simp only [List.length_nil]; omega) hb.size ?_; intro v2 w2 hv2 hg2; have hb2 := hv.frame hb (Nat.le_refl _) hg2; rw [List.nil_append] at hv2)
  have q0 := (hb2.cell (p := ⟨g, 0, none⟩) hg).trans g0
  have q1 := (hb2.cell (p := ⟨g, 1, none⟩) hg).trans g1
  have r2 := h2.below hb2
  have l1 : xs1.length ≤ n1 := by rw [h1.1]; omega
  rw [rounds_succ]
  go_wp2_with (at_builtin; refine wpList_append_rd rfl _ _ _ rfl w.heap.size 3 i0 (.int .i64 0) 1 8 Try.underlying25 hi0 hz0 hz1 hz2 rfl (by decide) encI_len oneI v2 xs1 rfl hv2 A2 n2 c2 xs2 rfl r2 (by unfold maxLen; omega) (by omega) hb2.size ?_; intro v3 w3 hv3 hg3; have hb3 := hv2.frame hb2 (Nat.le_refl _) hg3)
  rw [rounds_succ]
  go_wp2
  go_ret
  exact ⟨_, rfl, hv3, hb3⟩

end Go.Proofs.Ytjgmbgfcffnanac
