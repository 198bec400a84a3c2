/- The walks over package vals and its reference. -/
import Derived.Test.YtjgmbgfcffnanacRows
import Derived.Test.YtjgmbgfcffnanacSpec
namespace Go.Proofs.Ytjgmbgfcffnanac
open Go.RowKit

theorem retI {a b : Int} (h : a = b) : Ending.returned (.int .i64 a) = .returned (.int .i64 b) := by rw [h]
theorem retB {a b : Bool} (h : a = b) : Ending.returned (.bool a) = .returned (.bool b) := by rw [h]
theorem retII {a b c d : Int} (h : a = b) (h' : c = d) : Ending.returned (.tuple #[.int .i64 a, .int .i64 c]) = .returned (.tuple #[.int .i64 b, .int .i64 d]) := by rw [h, h']
theorem retBI {a b : Bool} {c d : Int} (h : a = b) (h' : c = d) : Ending.returned (.tuple #[.bool a, .int .i64 c]) = .returned (.tuple #[.bool b, .int .i64 d]) := by rw [h, h']

set_option maxHeartbeats 400000 in
theorem vals_Check (k n r : Int) (w : World) :
    Calls Try.prog 101 #[.agg #[.int .i64 k, .int .i64 n], .int .i64 r] w fun e w' => e = .returned (.int .i64 (checkOp k n r)) ∧ Below w.heap.size w w' := by
  have hb : Below w.heap.size w (w.alloc (.cells #[.int .i64 k, .int .i64 n] 87)) := (Below.refl _ _).alloc (Nat.le_refl _) _
  go_enter Try.func101, Try.ntmps101
  go_wp2
  all_goals
    go_ret
    refine ⟨retI ?_, hb⟩
    clear hb
    try simp only [beq_iff_eq, bne_iff_ne, beq_eq_false_iff_ne, bne_eq_false_iff_eq, ne_eq] at *
    unfold checkOp
    repeat' split
    all_goals omega

set_option maxHeartbeats 400000 in
theorem ref_CheckOperand (k n r : Int) (w : World) :
    Calls Try.prog 91 #[.agg #[.int .i64 k, .int .i64 n], .int .i64 r] w fun e w' => e = .returned (.int .i64 (checkOp k n r)) ∧ Below w.heap.size w w' := by
  go_enter Try.func91, Try.ntmps91
  go_wp2
  all_goals
    go_ret
    refine ⟨retI ?_, (Below.refl _ _).alloc (Nat.le_refl _) _⟩
    try simp only [bne_iff_ne, bne_eq_false_iff_eq, ne_eq, wrap64, Bool.not_eq_true', Bool.not_eq_false', decide_eq_true_eq, decide_eq_false_iff_not] at *
    unfold checkOp
    repeat' split
    all_goals omega

set_option maxHeartbeats 400000 in
theorem vals_Holds (k a b : Int) (w : World) :
    Calls Try.prog 100 #[.int .i64 k, .int .i64 a, .int .i64 b] w fun e w' => e = .returned (.tuple #[.bool (holdsB k a b), .int .i64 (holdsE k)]) ∧ w = w' := by
  go_enter Try.func100, Try.ntmps100
  go_wp2
  all_goals
    go_ret2
    refine ⟨retBI ?_ ?_, rfl⟩
    all_goals try simp only [beq_iff_eq, beq_eq_false_iff_ne, ne_eq] at *
    · unfold holdsB
      simp_all
    · unfold holdsE
      repeat' split
      all_goals omega

set_option maxHeartbeats 400000 in
theorem ref_HoldsOf (k a b : Int) (w : World) :
    Calls Try.prog 90 #[.int .i64 k, .int .i64 a, .int .i64 b] w fun e w' => e = .returned (.tuple #[.bool (holdsB k a b), .int .i64 (holdsE k)]) ∧ w = w' := by
  go_enter Try.func90, Try.ntmps90
  go_wp2
  all_goals
    go_ret2
    refine ⟨retBI ?_ ?_, rfl⟩
    all_goals try simp only [beq_iff_eq, beq_eq_false_iff_ne, ne_eq] at *
    · unfold holdsB
      simp_all
    · unfold holdsE
      repeat' split
      all_goals omega

/- Reckon: a map of functions, made anew each time -/
def opsEntries : Array MapEntry := #[⟨.int .i64 1, .func (.func 150) #[] #[], 0⟩, ⟨.int .i64 2, .func (.func 151) #[] #[], 1⟩, ⟨.int .i64 3, .func (.func 152) #[] #[], 2⟩, ⟨.int .i64 4, .func (.func 153) #[] #[], 3⟩, ⟨.int .i64 5, .func (.func 154) #[] #[], 4⟩, ⟨.int .i64 6, .func (.func 155) #[] #[], 5⟩]
theorem opsEntries_eq : #[⟨.int .i64 1, .func (.func 150) #[] #[], 0⟩, ⟨.int .i64 2, .func (.func 151) #[] #[], 1⟩, ⟨.int .i64 3, .func (.func 152) #[] #[], 2⟩, ⟨.int .i64 4, .func (.func 153) #[] #[], 3⟩, ⟨.int .i64 5, .func (.func 154) #[] #[], 4⟩, ⟨.int .i64 6, .func (.func 155) #[] #[], 5⟩] = opsEntries := rfl

set_option maxRecDepth 100000 in
set_option maxHeartbeats 400000 in
theorem vals_ops (w : World) :
    Calls Try.prog 129 #[] w fun e w' => e = .returned (.map (some w.heap.size)) ∧ w.alloc (.map opsEntries 6) = w' := by
  have hmm := @run_makeMap Try.prog
  have h1 := run_mapUpdate_new Try.underlying178 Try.underlying3 w #[] 0 1 (.func (.func 150) #[] #[]) rfl
  have h2 := run_mapUpdate_new Try.underlying178 Try.underlying3 w #[⟨.int .i64 1, .func (.func 150) #[] #[], 0⟩] 1 2 (.func (.func 151) #[] #[]) rfl
  have h3 := run_mapUpdate_new Try.underlying178 Try.underlying3 w #[⟨.int .i64 1, .func (.func 150) #[] #[], 0⟩, ⟨.int .i64 2, .func (.func 151) #[] #[], 1⟩] 2 3 (.func (.func 152) #[] #[]) rfl
  have h4 := run_mapUpdate_new Try.underlying178 Try.underlying3 w #[⟨.int .i64 1, .func (.func 150) #[] #[], 0⟩, ⟨.int .i64 2, .func (.func 151) #[] #[], 1⟩, ⟨.int .i64 3, .func (.func 152) #[] #[], 2⟩] 3 4 (.func (.func 153) #[] #[]) rfl
  have h5 := run_mapUpdate_new Try.underlying178 Try.underlying3 w #[⟨.int .i64 1, .func (.func 150) #[] #[], 0⟩, ⟨.int .i64 2, .func (.func 151) #[] #[], 1⟩, ⟨.int .i64 3, .func (.func 152) #[] #[], 2⟩, ⟨.int .i64 4, .func (.func 153) #[] #[], 3⟩] 4 5 (.func (.func 154) #[] #[]) rfl
  have h6 := run_mapUpdate_new Try.underlying178 Try.underlying3 w #[⟨.int .i64 1, .func (.func 150) #[] #[], 0⟩, ⟨.int .i64 2, .func (.func 151) #[] #[], 1⟩, ⟨.int .i64 3, .func (.func 152) #[] #[], 2⟩, ⟨.int .i64 4, .func (.func 153) #[] #[], 3⟩, ⟨.int .i64 5, .func (.func 154) #[] #[], 4⟩] 5 6 (.func (.func 155) #[] #[]) rfl
  simp only [List.push_toArray, List.cons_append, List.nil_append, Nat.reduceAdd, Nat.zero_add, opsEntries_eq] at h1 h2 h3 h4 h5 h6
  go_enter Try.func129, Try.ntmps129
  go_wp2
  go_ret
  exact ⟨rfl, rfl⟩

theorem find_miss (op : Int) (h : ¬ (1 ≤ op ∧ op ≤ 6)) : Instr.findNow (.int .i64) (.int .i64 op) opsEntries.toList 0 = some none := by
  have h1 : (op == 1) = false := by simp; omega
  have h2 : (op == 2) = false := by simp; omega
  have h3 : (op == 3) = false := by simp; omega
  have h4 : (op == 4) = false := by simp; omega
  have h5 : (op == 5) = false := by simp; omega
  have h6 : (op == 6) = false := by simp; omega
  simp [opsEntries, Instr.findNow, Instr.sameNow, h1, h2, h3, h4, h5, h6]

theorem reckonE_in {op : Int} (h : 1 ≤ op ∧ op ≤ 6) : reckonE op = 0 := if_pos h
theorem reckonE_out {op : Int} (h : ¬ (1 ≤ op ∧ op ≤ 6)) : reckonE op = 4 := if_neg h
theorem reckonN_out {op : Int} (a b : Int) (h : ¬ (1 ≤ op ∧ op ≤ 6)) : reckonN op a b = 0 := by
  unfold reckonN
  rw [if_neg (by omega), if_neg (by omega), if_neg (by omega), if_neg (by omega), if_neg (by omega), if_neg (by omega)]
theorem min_l {a b : Int} (h : a ≤ b) : min a b = a := by omega
theorem min_r {a b : Int} (h : b < a) : min a b = b := by omega
theorem max_l {a b : Int} (h : b ≤ a) : max a b = a := by omega
theorem max_r {a b : Int} (h : a < b) : max a b = b := by omega

set_option maxRecDepth 100000 in
set_option maxHeartbeats 1000000 in
theorem vals_Reckon (op a b : Int) (w : World) :
    Calls Try.prog 102 #[.int .i64 op, .int .i64 a, .int .i64 b] w fun e w' => e = .returned (.tuple #[.int .i64 (reckonN op a b), .int .i64 (reckonE op)]) ∧ Below w.heap.size w w' := by
  have hb : Below w.heap.size w (w.alloc (.map opsEntries 6)) := (Below.refl _ _).alloc (Nat.le_refl _) _
  by_cases h : 1 ≤ op ∧ op ≤ 6
  · have hcase : op = 1 ∨ op = 2 ∨ op = 3 ∨ op = 4 ∨ op = 5 ∨ op = 6 := by omega
    clear h
    rcases hcase with rfl | rfl | rfl | rfl | rfl | rfl
    · have hl := run_lookup_key Try.underlying178 Try.underlying3 (w.alloc (.map opsEntries 6)) w.heap.size opsEntries 6 1 (heap_alloc_new w _) 0 (.func (.func 150) #[] #[]) rfl
      go_enter Try.func102, Try.ntmps102
      go_wp2_with (first | (go_at_call 129; refine (vals_ops _).mono ?_; rintro e w' ⟨rfl, rfl⟩) | go_in)
      all_goals
        go_ret2
        exact ⟨retII rfl rfl, hb⟩
    · have hl := run_lookup_key Try.underlying178 Try.underlying3 (w.alloc (.map opsEntries 6)) w.heap.size opsEntries 6 2 (heap_alloc_new w _) 1 (.func (.func 151) #[] #[]) rfl
      go_enter Try.func102, Try.ntmps102
      go_wp2_with (first | (go_at_call 129; refine (vals_ops _).mono ?_; rintro e w' ⟨rfl, rfl⟩) | go_in)
      all_goals
        go_ret2
        exact ⟨retII rfl rfl, hb⟩
    · have hl := run_lookup_key Try.underlying178 Try.underlying3 (w.alloc (.map opsEntries 6)) w.heap.size opsEntries 6 3 (heap_alloc_new w _) 2 (.func (.func 152) #[] #[]) rfl
      go_enter Try.func102, Try.ntmps102
      go_wp2_with (first | (go_at_call 129; refine (vals_ops _).mono ?_; rintro e w' ⟨rfl, rfl⟩) | go_in)
      all_goals
        go_ret2
        exact ⟨retII rfl rfl, hb⟩
    · have hl := run_lookup_key Try.underlying178 Try.underlying3 (w.alloc (.map opsEntries 6)) w.heap.size opsEntries 6 4 (heap_alloc_new w _) 3 (.func (.func 153) #[] #[]) rfl
      go_enter Try.func102, Try.ntmps102
      go_wp2_with (first | (go_at_call 129; refine (vals_ops _).mono ?_; rintro e w' ⟨rfl, rfl⟩) | go_in)
      all_goals
        go_ret2
        exact ⟨retII rfl rfl, hb⟩
    · have hl := run_lookup_key Try.underlying178 Try.underlying3 (w.alloc (.map opsEntries 6)) w.heap.size opsEntries 6 5 (heap_alloc_new w _) 4 (.func (.func 154) #[] #[]) rfl
      rcases Int.lt_or_le b a with hlt | hle
      all_goals
        go_enter Try.func102, Try.ntmps102
        go_wp2_with (first | (go_at_call 129; refine (vals_ops _).mono ?_; rintro e w' ⟨rfl, rfl⟩) | go_in)
        all_goals
          go_ret2
          exact ⟨retII (by first | exact (min_l ‹_›).symm | exact (min_r ‹_›).symm) rfl, hb⟩
    · have hl := run_lookup_key Try.underlying178 Try.underlying3 (w.alloc (.map opsEntries 6)) w.heap.size opsEntries 6 6 (heap_alloc_new w _) 5 (.func (.func 155) #[] #[]) rfl
      rcases Int.lt_or_le a b with hlt | hle
      all_goals
        go_enter Try.func102, Try.ntmps102
        go_wp2_with (first | (go_at_call 129; refine (vals_ops _).mono ?_; rintro e w' ⟨rfl, rfl⟩) | go_in)
        all_goals
          go_ret2
          exact ⟨retII (by first | exact (max_l ‹_›).symm | exact (max_r ‹_›).symm) rfl, hb⟩
  · have hl := run_lookup_none Try.underlying178 Try.underlying3 (w.alloc (.map opsEntries 6)) w.heap.size opsEntries 6 op .nilFunc (by kernel_rfl) (heap_alloc_new w _) (find_miss op h)
    have h1 := Lib.hid (reckonE_out h)
    have h2 := Lib.hid (reckonN_out a b h)
    clear h
    go_enter Try.func102, Try.ntmps102
    go_wp2_with (first | (go_at_call 129; refine (vals_ops _).mono ?_; rintro e w' ⟨rfl, rfl⟩) | go_in)
    go_ret2
    exact ⟨retII h2.out.symm h1.out.symm, hb⟩

set_option maxRecDepth 100000 in
set_option maxHeartbeats 1000000 in
theorem ref_ReckonOf (op a b : Int) (w : World) :
    Calls Try.prog 92 #[.int .i64 op, .int .i64 a, .int .i64 b] w fun e w' => e = .returned (.tuple #[.int .i64 (reckonN op a b), .int .i64 (reckonE op)]) ∧ w = w' := by
  go_enter Try.func92, Try.ntmps92
  go_wp2
  all_goals
    go_ret2
    refine ⟨retII ?_ ?_, rfl⟩
    all_goals try simp only [beq_iff_eq, beq_eq_false_iff_ne, ne_eq] at *
    · unfold reckonN
      repeat' split
      all_goals first | rfl | omega
    · unfold reckonE
      repeat' split
      all_goals omega

end Go.Proofs.Ytjgmbgfcffnanac
