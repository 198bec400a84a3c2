/- The walk over txn.Check. -/
import Derived.Test.YtjgmbgfcffnanacTxn3
import Derived.Deep.RegionHeld3
namespace Go.Proofs.Ytjgmbgfcffnanac
open Go.RowKit

theorem keysOf_length (t : Txn) : (keysOf t).length = t.sets.length := by simp [keysOf]

theorem txn_Keys_rd (ra ga sa : Option Addr) (nr rc ng gc ns sc : Nat) (t : Txn) (w : World) (h : TxnAt w ra nr ga ng sa ns t) :
    Calls Try.prog 84 #[.agg #[.slice ra nr rc, .slice ga ng gc, .slice sa ns sc]] w fun e w' => ∃ A c, e = .returned (.slice A ns c) ∧ Rd 1 encI w' A ns (keysOf t) ∧ Below w.heap.size w w' :=
  (txn_Keys ra ga sa nr rc ng gc ns sc t w h).mono fun e w' ⟨v, he, hv, hb⟩ => by
    obtain ⟨A, c, rfl, _, _, hr⟩ := hv.form encI_len
    have hl : (keysOf t).length = ns := by rw [keysOf_length]; exact h.2.2.1.1
    rw [hl] at hr he
    exact ⟨A, c, he, hr, hb⟩

theorem checkTxn_sizes {t : Txn} (h : ¬ sizesOk t) : checkTxn t = 2 := by unfold checkTxn; rw [if_neg h]


theorem cell_set {w : World} {p : Addr} {u v : Value} (h : w.cell? p = some u) : (w.setCell p v).cell? p = some v := by
  exact World.cell?_setCell_same w p v h

set_option maxRecDepth 100000 in
theorem ck_door {R : Ending → World → Prop} {T : Array Value} {p : Addr} {x y : Int} {wc : World} (hT : T[2]? = some (.pointer (some p))) (hp : p.block < wc.heap.size) (hc : wc.cell? p = some (.int .i64 y)) (hz : wc.frozen? p = false)
    (hR : ∀ w1, Below wc.heap.size wc w1 → R (.returned (.int .i64 x)) (w1.setCell p (.int .i64 x))) :
    bodyPostD Try.prog Try.f41 R (Exit.panic [{ v := .iface 147 (.agg #[.int .i64 x]), recovered := false }])
      { tmps := T, defers := [{ target := Target.fn (Fn.func 95) #[.pointer (some p)], args := #[] }] } wc := by
  refine leaves_cons (f := 95) (args := #[.pointer (some p)]) (by simp) (by simp [go_sem]) ?_
  refine (txn_catch_panic p x y _ hp hc hz).mono ?_
  rintro e u' w'' ⟨rfl, rfl, w1, hb, rfl⟩
  have h1 : (w1.setCell p (.int .i64 x)).cell? p = some (.int .i64 x) := cell_set ((hb.cell hp).trans hc)
  have h2 := hR w1 hb
  simp [Leaves, settle, results, Try.results41, go_sem]
  refine ⟨_, ?_, h2⟩
  simp [hT, h1]

set_option maxRecDepth 100000 in
theorem ck_door_ok {R : Ending → World → Prop} {T : Array Value} {p : Addr} {x : Int} {wc : World} (hT : T[2]? = some (.pointer (some p))) (hp : p.block < wc.heap.size) (hc : wc.cell? p = some (.int .i64 x))
    (hR : ∀ w1, Below wc.heap.size wc w1 → R (.returned (.int .i64 x)) w1) :
    bodyPostD Try.prog Try.f41 R Exit.ret
      { tmps := T, defers := [{ target := Target.fn (Fn.func 95) #[.pointer (some p)], args := #[] }] } wc := by
  refine leaves_cons (f := 95) (args := #[.pointer (some p)]) (by simp) (by simp [go_sem]) ?_
  refine (txn_catch_idle p _).mono ?_
  rintro e u' w1 ⟨rfl, rfl, hb⟩
  have h1 : w1.cell? p = some (.int .i64 x) := (hb.cell hp).trans hc
  have h2 := hR w1 hb
  simp [Leaves, settle, results, Try.results41, go_sem]
  refine ⟨_, ?_, h2⟩
  simp [hT, h1]

/- the world behind the boxing of Check's parameter and of its result -/
def ckW (w : World) (ra : Option Addr) (nr rc : Nat) (ga : Option Addr) (ng gc : Nat) (sa : Option Addr) (ns sc : Nat) : World :=
  (w.alloc (.cells #[.slice ra nr rc, .slice ga ng gc, .slice sa ns sc] 72)).alloc (.cells #[.int .i64 0] 33)

theorem ckW_eq (w : World) (ra nr rc ga ng gc sa ns sc) : (w.alloc (.cells #[.slice ra nr rc, .slice ga ng gc, .slice sa ns sc] 72)).alloc (.cells #[.int .i64 0] 33) = ckW w ra nr rc ga ng gc sa ns sc := rfl
section
variable {w wc : World} {ra : Option Addr} {nr rc : Nat} {ga : Option Addr} {ng gc : Nat} {sa : Option Addr} {ns sc : Nat}
theorem ckW_size : (ckW w ra nr rc ga ng gc sa ns sc).heap.size = w.heap.size + 2 := by simp [ckW]
theorem ckW_cell : (ckW w ra nr rc ga ng gc sa ns sc).cell? ⟨w.heap.size + 1, 0, none⟩ = some (.int .i64 0) := by simp [ckW, go_sem]
theorem ckW_free : (ckW w ra nr rc ga ng gc sa ns sc).frozen? ⟨w.heap.size + 1, 0, none⟩ = false := by simp [ckW, go_sem]
theorem ckW_below : Below w.heap.size w (ckW w ra nr rc ga ng gc sa ns sc) := Bel.alloc (Bel.alloc (Below.refl _ _) _) _
theorem ck_below (h : Below (ckW w ra nr rc ga ng gc sa ns sc).heap.size (ckW w ra nr rc ga ng gc sa ns sc) wc) : Below w.heap.size w wc := Bel.step ckW_below h

theorem ck_cells (h : Below (ckW w ra nr rc ga ng gc sa ns sc).heap.size (ckW w ra nr rc ga ng gc sa ns sc) wc) :
    wc.cell? ⟨w.heap.size, 0, none⟩ = some (.slice ra nr rc) ∧ wc.cell? ⟨w.heap.size, 1, none⟩ = some (.slice ga ng gc) ∧ wc.cell? ⟨w.heap.size, 2, none⟩ = some (.slice sa ns sc) ∧
    wc.cell? ⟨w.heap.size + 1, 0, none⟩ = some (.int .i64 0) ∧ wc.frozen? ⟨w.heap.size + 1, 0, none⟩ = false ∧ w.heap.size < wc.heap.size ∧ w.heap.size + 1 < wc.heap.size ∧ w.heap.size ≤ wc.heap.size ∧ (∀ n, w.heap.size < wc.heap.size + n) ∧ (∀ n, w.heap.size + 1 < wc.heap.size + n) := by
  have hs := h.size
  rw [ckW_size] at hs
  refine ⟨(h.cell (by rw [ckW_size]; simp)).trans ?_, (h.cell (by rw [ckW_size]; simp)).trans ?_, (h.cell (by rw [ckW_size]; simp)).trans ?_, (h.cell (by rw [ckW_size]; simp)).trans ckW_cell, (h.frozen (by rw [ckW_size]; simp)).trans ckW_free, by omega, by omega, by omega, fun n => by omega, fun n => by omega⟩
  all_goals simp [ckW, go_sem]
theorem ck_throw {T : Array Value} {x res : Int} (HBc : Below (ckW w ra nr rc ga ng gc sa ns sc).heap.size (ckW w ra nr rc ga ng gc sa ns sc) wc) (hx : x = res) (hT : T[2]? = some (.pointer (some ⟨w.heap.size + 1, 0, none⟩))) :
    bodyPostD Try.prog Try.f41 (fun e w' => e = .returned (.int .i64 res) ∧ Below w.heap.size w w') (Exit.panic [{ v := .iface 147 (.agg #[.int .i64 x]), recovered := false }])
      { tmps := T, defers := [{ target := Target.fn (Fn.func 95) #[.pointer (some ⟨w.heap.size + 1, 0, none⟩)], args := #[] }] } wc := by
  subst hx
  have hs := HBc.size
  rw [ckW_size] at hs
  refine ck_door (y := 0) hT (by simp; omega) ((HBc.cell (by rw [ckW_size]; simp)).trans ckW_cell) ((HBc.frozen (by rw [ckW_size]; simp)).trans ckW_free) ?_
  intro w1 hb1
  exact ⟨rfl, (Bel.step (ck_below HBc) hb1).setCell (by simp) _⟩
theorem ck_fine {T : Array Value} {res : Int} (HBc : Below (ckW w ra nr rc ga ng gc sa ns sc).heap.size (ckW w ra nr rc ga ng gc sa ns sc) wc) (hx : res = 0) (hT : T[2]? = some (.pointer (some ⟨w.heap.size + 1, 0, none⟩))) :
    bodyPostD Try.prog Try.f41 (fun e w' => e = .returned (.int .i64 res) ∧ Below w.heap.size w w') Exit.ret
      { tmps := T, defers := [{ target := Target.fn (Fn.func 95) #[.pointer (some ⟨w.heap.size + 1, 0, none⟩)], args := #[] }] } (wc.setCell ⟨w.heap.size + 1, 0, none⟩ (.int .i64 0)) := by
  subst hx
  have hs := HBc.size
  rw [ckW_size] at hs
  refine ck_door_ok hT (by simp; omega) (cell_set ((HBc.cell (by rw [ckW_size]; simp)).trans ckW_cell)) ?_
  intro w1 hb1
  exact ⟨rfl, ((ck_below HBc).setCell (by simp) _).trans (hb1.mono (by simp; omega))⟩
end

set_option maxRecDepth 100000 in
set_option maxHeartbeats 2000000 in
theorem txn_Check_sizes (ra ga sa : Option Addr) (nr rc ng gc ns sc : Nat) (t : Txn) (w : World) (h : TxnAt w ra nr ga ng sa ns t) (hno : ¬ (nr ≤ 4 ∧ ng ≤ 2 ∧ 0 < ns ∧ ns ≤ 3)) :
    Calls Try.prog 41 #[.agg #[.slice ra nr rc, .slice ga ng gc, .slice sa ns sc]] w fun e w' => e = .returned (.int .i64 2) ∧ Below w.heap.size w w' := by
  have hmf : ∀ (fn : Fn) (first cap : Array Value) (w : World), (Instr.makeFunc fn first cap).run Try.prog w = .ok (.func fn first cap) w := fun _ _ _ _ => rfl
  have hW := ((h.alloc (.cells #[.slice ra nr rc, .slice ga ng gc, .slice sa ns sc] 72)).alloc (.cells #[.int .i64 0] 33))
  go_enter_defers Try.func41, Try.ntmps41
  go_wp2_with (first
    | (go_at_call 84; refine (txn_Keys_rd _ _ _ _ _ _ _ _ _ t _ hW).mono ?_; rintro e w1 ⟨A, c, rfl, hrd, hb⟩; have HC := bcell hb)
    | (go_at_call 97; refine (txn_unless _ _ _).mono ?_; rintro e w' ⟨rfl, rfl⟩)
    | (go_at_call 96; refine (txn_must_no _ 1 _ [2] _ (by omega) (by exact Rd.new _ encI_len (by simp) rfl rfl) (by decide)).mono ?_; rintro e w' ⟨rfl, rfl⟩))
  all_goals exact ck_throw (ra := ra) (nr := nr) (rc := rc) (ga := ga) (ng := ng) (gc := gc) (sa := sa) (ns := ns) (sc := sc) (by rw [← ckW_eq]; exact (by repeat (first | exact Below.refl _ _ | refine Bel.step ?_ (by assumption) | refine Bel.alloc ?_ _ | refine Bel.drew ?_ | refine Bel.drewN ?_ _))) (by rfl) rfl


theorem slices_Concat_rd (g c A1 n1 c1 A2 n2 c2) (xs1 xs2 : List Int) (w : World) (hg : g < w.heap.size) (g0 : w.cell? ⟨g, 0, none⟩ = some (.slice A1 n1 c1)) (g1 : w.cell? ⟨g, 1, none⟩ = some (.slice A2 n2 c2))
    (h1 : Rd 1 encI w A1 n1 xs1) (h2 : Rd 1 encI w A2 n2 xs2) (hn : n1 + n2 ≤ 8796093022208) :
    Calls Try.prog 98 #[.slice (some ⟨g, 0, none⟩) 2 c] w fun e w' => ∃ A c, e = .returned (.slice A (n1 + n2) c) ∧ Rd 1 encI w' A (n1 + n2) (xs1 ++ xs2) ∧ Below w.heap.size w w' :=
  (slices_Concat_int g c A1 n1 c1 A2 n2 c2 xs1 xs2 w hg g0 g1 h1 h2 hn).mono fun e w' ⟨v, he, hv, hb⟩ => by
    obtain ⟨A, c, rfl, _, _, hr⟩ := hv.form encI_len
    have hl : (xs1 ++ xs2).length = n1 + n2 := by rw [List.length_append, h1.1, h2.1]
    rw [hl] at hr he
    exact ⟨A, c, he, hr, hb⟩

theorem slices_Concat_new (g c : Nat) (A1 : Option Addr) (n1 c1 : Nat) (A2 : Option Addr) (n2 c2 : Nat) (tt : TypeId) (xs1 xs2 : List Int) (W : World) (hg : g = W.heap.size) (h1 : Rd 1 encI W A1 n1 xs1) (h2 : Rd 1 encI W A2 n2 xs2) (hn : n1 + n2 ≤ 8796093022208) :
    Calls Try.prog 98 #[.slice (some ⟨g, 0, none⟩) 2 c] (W.alloc (.cells #[.slice A1 n1 c1, .slice A2 n2 c2] tt)) fun e w' => ∃ A c, e = .returned (.slice A (n1 + n2) c) ∧ Rd 1 encI w' A (n1 + n2) (xs1 ++ xs2) ∧ Below (W.alloc (.cells #[.slice A1 n1 c1, .slice A2 n2 c2] tt)).heap.size (W.alloc (.cells #[.slice A1 n1 c1, .slice A2 n2 c2] tt)) w' := by
  subst hg
  exact slices_Concat_rd _ c A1 n1 c1 A2 n2 c2 xs1 xs2 _ (by simp) (by simp [World.cell?_alloc_new]) (by simp [World.cell?_alloc_new]) (h1.alloc _) (h2.alloc _) hn

theorem checkTxn_keys {t : Txn} (hs : sizesOk t) (h : (t.reads ++ keysOf t).all isKeyB = false) : checkTxn t = 3 := by unfold checkTxn; rw [if_pos hs, h]; rfl
theorem isKeyB_true {x : Int} (h : isKeyB x = true) : 0 ≤ x ∧ x < 8 := by simp [isKeyB] at h; omega
theorem isKeyB_false {x : Int} (h : isKeyB x = false) : ¬ (0 ≤ x ∧ x < 8) := by simp [isKeyB] at h; omega
def KeysTo (k : Nat) (l : List Int) : Prop := ∀ j x, j < k → l[j]? = some x → isKeyB x = true
theorem KeysTo.next {k : Nat} {l : List Int} {x : Int} (h : KeysTo k l) (hx : l[k]? = some x) (hk : isKeyB x = true) : KeysTo (k + 1) l := by
  intro j y hj hy
  rcases Nat.lt_or_ge j k with h1 | h1
  · exact h j y h1 hy
  · obtain rfl : j = k := by omega
    rw [hx] at hy; injection hy with hy; rw [← hy]; exact hk
theorem KeysTo.all {k : Nat} {l : List Int} (h : KeysTo k l) (hl : l.length ≤ k) : l.all isKeyB = true := by
  rw [List.all_eq_true]
  intro x hx
  obtain ⟨i, hi⟩ := List.getElem?_of_mem hx
  exact h i x (by have := (List.getElem?_eq_some_iff.1 hi).1; omega) hi

set_option maxRecDepth 100000 in
set_option maxHeartbeats 4000000 in
theorem txn_Check_keys (ra ga sa : Option Addr) (nr rc ng gc ns sc : Nat) (t : Txn) (w : World) (h : TxnAt w ra nr ga ng sa ns t) (hr4 : nr ≤ 4) (hg2 : ng ≤ 2) (hs0 : 0 < ns) (hs3 : ns ≤ 3) (hno : (t.reads ++ keysOf t).all isKeyB = false) :
    Calls Try.prog 41 #[.agg #[.slice ra nr rc, .slice ga ng gc, .slice sa ns sc]] w fun e w' => e = .returned (.int .i64 3) ∧ Below w.heap.size w w' := by
  have hmf : ∀ (fn : Fn) (first cap : Array Value) (w : World), (Instr.makeFunc fn first cap).run Try.prog w = .ok (.func fn first cap) w := fun _ _ _ _ => rfl
  have hW := ((h.alloc (.cells #[.slice ra nr rc, .slice ga ng gc, .slice sa ns sc] 72)).alloc (.cells #[.int .i64 0] 33))
  have hNO := Lib.hid hno
  clear hno
  go_enter_defers Try.func41, Try.ntmps41
  go_wp2_with (first
    | (go_at_call 84; refine (txn_Keys_rd _ _ _ _ _ _ _ _ _ t _ hW).mono ?_; rintro e w1 ⟨A, c, rfl, hrd, hb⟩; have hrr := hW.1.below hb; rw [ckW_eq] at hb; have HB := hb; have HC := ck_cells hb; clear hb)
    | (go_at_call 97; refine (txn_unless _ _ _).mono ?_; rintro e w' ⟨rfl, rfl⟩)
    | (go_at_call 96; refine (txn_must_ok _ 1 _ [0] _ (by omega) (by exact Rd.new _ encI_len (by simp) rfl rfl) rfl).mono ?_; rintro e w' ⟨rfl, rfl⟩)
    | (go_at_call 98; refine (slices_Concat_new _ _ _ _ _ _ _ _ _ t.reads (keysOf t) _ (World.size_alloc _ _).symm (hrr.alloc _) (hrd.alloc _) (by omega)).mono ?_; rintro e w2 ⟨A2, c2, rfl, hrd2, hb⟩; (first | (replace HB := Bel.step HB hb) | (replace HB := Bel.step (Bel.alloc HB _) hb) | (replace HB := Bel.step (Bel.alloc (Bel.alloc HB _) _) hb) | (replace HB := Bel.step (Bel.alloc (Bel.alloc (Bel.alloc HB _) _) _) hb) | (replace HB := Bel.step (Bel.alloc (Bel.alloc (Bel.alloc (Bel.alloc HB _) _) _) _) hb) | (replace HB := Bel.step (Bel.alloc (Bel.alloc (Bel.alloc (Bel.alloc (Bel.alloc HB _) _) _) _) _) hb) | (replace HB := Bel.step (Bel.alloc (Bel.alloc (Bel.alloc (Bel.alloc (Bel.alloc (Bel.alloc HB _) _) _) _) _) _) hb) | (replace HB := Bel.step (Bel.drew HB) hb) | (replace HB := Bel.step (Bel.drewN HB _) hb) | (replace HB := Bel.step (Bel.alloc (Bel.drewN HB _) _) hb)); replace HC := ck_cells HB; clear hb))
  have hs2 := hrd2.2
  have hN := Lib.hid hrd2.1
  go_loopw [47] (fun i wr => ∃ k : Nat, k ≤ nr + ns ∧ i = .int .i64 k ∧ KeysTo k (t.reads ++ keysOf t) ∧ Below (ckW w ra nr rc ga ng gc sa ns sc).heap.size (ckW w ra nr rc ga ng gc sa ns sc) wr ∧ Below w2.heap.size w2 wr) (fun i _ => nr + ns - (intOf i).toNat)
  case atStart => exact ⟨0, by omega, rfl, fun j x hj => by omega, HB, Below.refl _ _⟩
  case round =>
    obtain ⟨k, hk, rfl, hK, HBr, HB2⟩ := hrel
    clear HC
    have HC := ck_cells HBr
    by_cases hlt : k < nr + ns
    · have hsr := hs2.below HB2
      obtain ⟨b, o, x, rfl, hbx, hx, hc⟩ := hsr.int (i := k) (by have := hN.out; omega)
      cases hxk : isKeyB x with
      | true =>
        obtain ⟨x1, x2⟩ := isKeyB_true hxk
        have hK2 := hK.next hx.out hxk
        clear hxk
        go_wp2_with (first
          | (go_at_call 97; refine (txn_unless _ _ _).mono ?_; rintro e w' ⟨rfl, rfl⟩)
          | (go_at_call 96; refine (txn_must_ok _ 1 _ [0] _ (by omega) (by exact Rd.new _ encI_len (by simp) rfl rfl) rfl).mono ?_; rintro e w' ⟨rfl, rfl⟩))
        go_roundw
        case rel => exact ⟨k + 1, by omega, by go_num, hK2, Bel.alloc HBr _, Bel.alloc HB2 _⟩
        case measure => simp [intOf]; omega
      | false =>
        have x1 := isKeyB_false hxk
        clear hxk
        go_wp2_with (first
          | (go_at_call 97; refine (txn_unless _ _ _).mono ?_; rintro e w' ⟨rfl, rfl⟩)
          | (go_at_call 96; refine (txn_must_no _ 1 _ [3] _ (by omega) (by exact Rd.new _ encI_len (by simp) rfl rfl) (by decide)).mono ?_; rintro e w' ⟨rfl, rfl⟩))
        all_goals exact ck_throw (ra := ra) (nr := nr) (rc := rc) (ga := ga) (ng := ng) (gc := gc) (sa := sa) (ns := ns) (sc := sc) (Bel.alloc HBr _) (by rfl) rfl
    · exfalso
      have := hK.all (by have := hN.out; omega)
      rw [hNO.out] at this
      cases this

end Go.Proofs.Ytjgmbgfcffnanac
