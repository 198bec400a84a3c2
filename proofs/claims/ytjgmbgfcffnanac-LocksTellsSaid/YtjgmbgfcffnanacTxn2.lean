/- The walks over unless, must, rising of package txn, and the closure that catches. -/
import Derived.Test.YtjgmbgfcffnanacTxn1
import Derived.Deep.QuietTactic
import Derived.BigQuiet
import Derived.Recover
namespace Go.Proofs.Ytjgmbgfcffnanac
open Go.RowKit

theorem rising_iff (l : List Int) : rising l = true ↔ ∀ i x y, l[i]? = some x → l[i + 1]? = some y → x < y := by
  induction l with
  | nil => simp [rising]
  | cons a l ih =>
    cases l with
    | nil => simp [rising]
    | cons b l =>
      simp only [rising, Bool.and_eq_true, decide_eq_true_eq, ih]
      constructor
      · rintro ⟨h1, h2⟩ i x y hx hy
        cases i with
        | zero => simp at hx hy; omega
        | succ i => exact h2 i x y (by simpa using hx) (by simpa using hy)
      · intro h
        exact ⟨h 0 a b rfl rfl, fun i x y hx hy => h (i + 1) x y (by simpa using hx) (by simpa using hy)⟩
def RisUp (k : Nat) (l : List Int) : Prop := ∀ i x y, i + 1 < k → l[i]? = some x → l[i + 1]? = some y → x < y
theorem RisUp.one (l : List Int) : RisUp 1 l := fun i _ _ h => by omega
theorem RisUp.next {k : Nat} {l : List Int} {x y : Int} (h : RisUp (k + 1) l) (hx : l[k]? = some x) (hy : l[k + 1]? = some y) (hlt : x < y) : RisUp (k + 2) l := by
  intro i a b hi ha hb
  rcases Nat.lt_or_ge (i + 1) (k + 1) with h1 | h1
  · exact h i a b h1 ha hb
  · obtain rfl : i = k := by omega
    rw [hx] at ha; rw [hy] at hb
    injection ha with ha; injection hb with hb
    omega
theorem RisUp.all {k : Nat} {l : List Int} (h : RisUp k l) (hk : l.length ≤ k) : rising l = true := by
  rw [rising_iff]
  intro i x y hx hy
  have : i + 1 < l.length := (List.getElem?_eq_some_iff.1 hy).1
  exact h i x y (by omega) hx hy
theorem rising_not {k : Nat} {l : List Int} {x y : Int} (hx : l[k]? = some x) (hy : l[k + 1]? = some y) (hge : y ≤ x) : rising l = false := by
  cases hr : rising l with
  | false => rfl
  | true => have := (rising_iff l).1 hr k x y hx hy; omega

set_option maxHeartbeats 400000 in
theorem txn_unless (b : Bool) (e : Int) (w : World) :
    Calls Try.prog 97 #[.bool b, .int .i64 e] w fun r w' => r = .returned (.int .i64 (if b then 0 else e)) ∧ w = w' := by
  cases b
  all_goals
    go_enter Try.func97, Try.ntmps97
    go_wp2
    go_ret
    exact ⟨rfl, rfl⟩

set_option maxRecDepth 100000 in
set_option maxHeartbeats 1000000 in
theorem txn_rising (A : Option Addr) (len c : Nat) (xs : List Int) (w : World) (hl : len ≤ 4611686018427387904) (hs : Rd 1 encI w A len xs) :
    Calls Try.prog 99 #[.slice A len c] w fun e w' => e = .returned (.bool (rising xs)) ∧ Below w.heap.size w w' := by
  obtain ⟨hlen, hs⟩ := hs
  have HB := Below.refl w.heap.size w
  go_enter Try.func99, Try.ntmps99
  go_wp2
  go_loopw [3] (fun i wr => ∃ k : Nat, k + 1 ≤ max len 1 ∧ i = .int .i64 (k + 1) ∧ RisUp (k + 1) xs ∧ Below w.heap.size w wr) (fun i _ => len + 1 - (intOf i).toNat)
  case atStart => exact ⟨0, by omega, rfl, RisUp.one _, HB⟩
  case round =>
    obtain ⟨k, hk, rfl, hr, HB⟩ := hrel
    by_cases hlt : k + 1 < len
    · have hsr := hs.below HB
      obtain ⟨b, o, x, rfl, hb, hx, hc⟩ := hsr.int (i := k) (by omega)
      obtain ⟨b', o', y, hA, _, hy, hc'⟩ := hsr.int (i := k + 1) (by omega)
      injection hA with hA
      injection hA with h1 h2
      subst h1 h2
      have i1 : (0 : Int) ≤ (k : Int) := by omega
      have i2 : (k : Int) < (len : Int) := by omega
      have i3 : (k : Int) + 1 < (len : Int) := by omega
      have i4 : (0 : Int) ≤ (k : Int) + 1 := by omega
      by_cases hxy : y ≤ x
      · have hres := Lib.hid (rising_not hx.out hy.out hxy)
        go_wp2
        have z1 : IntKind.i64.wrap (k : Int) = (k : Int) := IntWalk.i64_in _ (by omega)
        have z2 : ((k : Int) + 1).toNat = k + 1 := by omega
        go_quiet (fail)
        clear z1 z2
        go_wp2
        go_ret
        exact ⟨retB hres.out.symm, Bel.drewN HB _⟩
      · have hn : x < y := by omega
        have hres := RisUp.next hr hx.out hy.out hn
        go_wp2
        have z1 : IntKind.i64.wrap (k : Int) = (k : Int) := IntWalk.i64_in _ (by omega)
        have z2 : ((k : Int) + 1).toNat = k + 1 := by omega
        go_quiet (fail)
        clear z1 z2
        go_wp2
        go_roundw
        case rel => exact ⟨k + 1, by omega, by go_num, hres, Bel.drewN HB _⟩
        case measure => simp [intOf]; omega
    · have hres := Lib.hid (hr.all (by omega))
      go_wp2
      go_ret
      exact ⟨retB hres.out.symm, HB⟩

/- must: 0 all, or the first that is not 0 is thrown -/
theorem fe_take_zero {l : List Int} {k : Nat} {x : Int} (h : fe (l.take k) = 0) (hx : l[k]? = some x) : fe (l.take (k + 1)) = x := by
  rw [take_push hx, fe_append, if_pos h]
  by_cases h0 : x = 0 <;> simp [fe, h0]
theorem fe_of_take {l : List Int} {k : Nat} (h : fe (l.take k) ≠ 0) : fe l = fe (l.take k) := by
  conv => lhs; rw [← List.take_append_drop k l]
  rw [fe_append, if_neg h]

set_option maxRecDepth 100000 in
set_option maxHeartbeats 1000000 in
theorem txn_must_ok (A : Option Addr) (len c : Nat) (l : List Int) (w : World) (hl : len ≤ 4611686018427387904) (hs : Rd 1 encI w A len l) (h0 : fe l = 0) :
    Calls Try.prog 96 #[.slice A len c] w fun e w' => e = .returned (.tuple #[]) ∧ w = w' := by
  obtain ⟨hlen, hs⟩ := hs
  have hz := Lib.hid (fe_zero.1 h0)
  clear h0
  go_enter Try.func96, Try.ntmps96
  go_wp2
  go_loop [3, 6] (fun _ i => ∃ k : Nat, k ≤ len ∧ i = .int .i64 k) (fun _ i => len - (intOf i).toNat)
  case atStart => exact ⟨0, by omega, rfl⟩
  case round =>
    obtain ⟨k, hk, rfl⟩ := hrel
    by_cases hlt : k < len
    · obtain ⟨b, o, x, rfl, hb, hx, hc⟩ := hs.int (i := k) (by omega)
      have hx0 : x = 0 := hz.out x (List.mem_of_getElem? hx.out)
      subst hx0
      go_wp2
      go_round
      case rel => exact ⟨k + 1, by omega, by go_num⟩
      case measure => simp [intOf]; omega
    · go_wp2
      go_end0
      exact ⟨rfl, rfl⟩

def Thrown (x : Int) (w : World) (e : Ending) (w' : World) : Prop := e = .panicked [{ v := .iface 147 (.agg #[.int .i64 x]), recovered := false }] ∧ w = w'

set_option maxRecDepth 100000 in
set_option maxHeartbeats 1000000 in
theorem txn_must_no (A : Option Addr) (len c : Nat) (l : List Int) (w : World) (hl : len ≤ 4611686018427387904) (hs : Rd 1 encI w A len l) (h0 : fe l ≠ 0) :
    Calls Try.prog 96 #[.slice A len c] w (Thrown (fe l) w) := by
  obtain ⟨hlen, hs⟩ := hs
  have hz := Lib.hid h0
  clear h0
  go_enter Try.func96, Try.ntmps96
  go_wp2
  go_loop [3, 6] (fun _ i => ∃ k : Nat, k ≤ len ∧ i = .int .i64 k ∧ Hid (fe (l.take k) = 0)) (fun _ i => len - (intOf i).toNat)
  case atStart => exact ⟨0, by omega, rfl, rfl⟩
  case round =>
    obtain ⟨k, hk, rfl, hf⟩ := hrel
    by_cases hlt : k < len
    · obtain ⟨b, o, x, rfl, hb, hx, hc⟩ := hs.int (i := k) (by omega)
      have hn := fe_take_zero hf.out hx.out
      by_cases hx0 : x = 0
      · subst hx0
        replace hn := Lib.hid hn
        go_wp2
        go_round
        case rel => exact ⟨k + 1, by omega, by go_num, hn.out⟩
        case measure => simp [intOf]; omega
      · have hfe := Lib.hid (fe_of_take (l := l) (k := k + 1) (by rw [hn]; exact hx0))
        replace hn := Lib.hid hn
        go_wp2
        exact ⟨rfl, by rw [hfe.out, hn.out]; exact ⟨rfl, rfl⟩⟩
    · exfalso
      have : l.take k = l := List.take_of_length_le (by omega)
      exact hz.out (by rw [← this]; exact hf.out)

theorem ta_nil (w : World) : (Instr.typeAssert .nilIface 20 147 true).run Try.prog w = .ok (.tuple #[.agg #[.int .i64 0], .bool false]) w := by kernel_rfl
theorem ta_yes (x : Int) (w : World) : (Instr.typeAssert (.iface 147 (.agg #[.int .i64 x])) 20 147 true).run Try.prog w = .ok (.tuple #[.agg #[.int .i64 x], .bool true]) w := by kernel_rfl
theorem neq_nil (w : World) : (binOp .neq 20 .nilIface .nilIface).run Try.prog w = .ok (.bool false) w := by kernel_rfl

set_option maxRecDepth 100000 in
set_option maxHeartbeats 1000000 in
theorem txn_catch_idle (p : Addr) (w : World) :
    CallsD Try.prog 95 #[.pointer (some p)] .returning w fun e u' w' => e = .returned (.tuple #[]) ∧ u' = .returning ∧ Below w.heap.size w w' := by
  refine callsD_of_wpS Try.func95 rfl fun c₀ cs hu => ?_
  apply wpS_seq
  apply wpS_region
  simp [wpOpsS, go_sem, recoverD, hu, Try.ntmps95, Exit.thenS]
  have ht : (#[Value.pointer (some p)] ++ ((Array.replicate 15 undef).setIfInBounds 3 Value.nilIface).setIfInBounds 0 Value.nilIface) = #[.pointer (some p), .nilIface, undef, undef, .nilIface, undef, undef, undef, undef, undef, undef, undef, undef, undef, undef, undef] := rfl
  rw [ht]
  clear ht
  refine wpS_of_wp ?_
  have h1 := ta_nil
  have h2 := neq_nil
  go_wp2
  exact ⟨rfl, .returning, by rw [← hu], .tuple #[], results_none rfl _ _ _, rfl, rfl, Bel.alloc (Below.refl _ _) _⟩

set_option maxRecDepth 100000 in
set_option maxHeartbeats 1000000 in
theorem txn_catch_panic (p : Addr) (x y : Int) (w : World) (hp : p.block < w.heap.size) (hc0 : w.cell? p = some (.int .i64 y)) (hz0 : w.frozen? p = false) :
    CallsD Try.prog 95 #[.pointer (some p)] (.panicking [{ v := .iface 147 (.agg #[.int .i64 x]), recovered := false }]) w fun e u' w' =>
      e = .returned (.tuple #[]) ∧ u' = .panicking [{ v := .iface 147 (.agg #[.int .i64 x]), recovered := true }] ∧ ∃ w1, Below w.heap.size w w1 ∧ w' = w1.setCell p (.int .i64 x) := by
  refine callsD_of_wpS Try.func95 rfl fun c₀ cs hu => ?_
  apply wpS_seq
  apply wpS_region
  simp [wpOpsS, go_sem, recoverD, hu, Try.ntmps95, Exit.thenS]
  have ht : (#[Value.pointer (some p)] ++ ((Array.replicate 15 undef).setIfInBounds 3 (Value.iface 147 (.agg #[.int .i64 x]))).setIfInBounds 0 (Value.iface 147 (.agg #[.int .i64 x]))) = #[.pointer (some p), .iface 147 (.agg #[.int .i64 x]), undef, undef, .iface 147 (.agg #[.int .i64 x]), undef, undef, undef, undef, undef, undef, undef, undef, undef, undef, undef] := rfl
  rw [ht]
  clear ht
  refine wpS_of_wp ?_
  have h1 := ta_yes
  have hb : Below w.heap.size w (w.alloc (.cells #[.int .i64 x] 147)) := Bel.alloc (Below.refl _ _) _
  have hc := (hb.cell hp).trans hc0
  have hz := (hb.frozen hp).trans hz0
  clear hb hc0 hz0
  go_wp2
  exact ⟨rfl, _, rfl, .tuple #[], results_none rfl _ _ _, rfl, rfl, _, Bel.alloc (Below.refl _ _) _, rfl⟩

end Go.Proofs.Ytjgmbgfcffnanac
