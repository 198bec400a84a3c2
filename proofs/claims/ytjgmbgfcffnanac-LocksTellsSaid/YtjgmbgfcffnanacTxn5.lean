/- The walk over txn.Check, behind the keys' bounds. -/
import Derived.Test.YtjgmbgfcffnanacTxn4
namespace Go.Proofs.Ytjgmbgfcffnanac
open Go.RowKit

theorem checkTxn_rising {t : Txn} (hs : sizesOk t) (h : (t.reads ++ keysOf t).all isKeyB = true) (hr : (rising t.reads && rising (keysOf t)) = false) : checkTxn t = 1 := by unfold checkTxn; rw [if_pos hs, h, if_pos rfl, hr]; rfl

set_option maxRecDepth 100000 in
set_option maxHeartbeats 4000000 in
theorem txn_Check_rising (ra ga sa : Option Addr) (nr rc ng gc ns sc : Nat) (t : Txn) (w : World) (h : TxnAt w ra nr ga ng sa ns t) (hr4 : nr ≤ 4) (hg2 : ng ≤ 2) (hs0 : 0 < ns) (hs3 : ns ≤ 3) (hall : (t.reads ++ keysOf t).all isKeyB = true)
    (hri : (rising t.reads && rising (keysOf t)) = false) :
    Calls Try.prog 41 #[.agg #[.slice ra nr rc, .slice ga ng gc, .slice sa ns sc]] w fun e w' => e = .returned (.int .i64 1) ∧ Below w.heap.size w w' := by
  have hmf : ∀ (fn : Fn) (first cap : Array Value) (w : World), (Instr.makeFunc fn first cap).run Try.prog w = .ok (.func fn first cap) w := fun _ _ _ _ => rfl
  have hW := ((h.alloc (.cells #[.slice ra nr rc, .slice ga ng gc, .slice sa ns sc] 72)).alloc (.cells #[.int .i64 0] 33))
  have hNO := Lib.hid (List.all_eq_true.1 hall)
  clear hall
  go_enter_defers Try.func41, Try.ntmps41
  go_wp2_with (first
    | (go_at_call 84; refine (txn_Keys_rd _ _ _ _ _ _ _ _ _ t _ hW).mono ?_; rintro e w1 ⟨A, c, rfl, hrd, hb⟩; have hrr := hW.1.below hb; have hrg := hW.2.1.below hb; have hrs := hW.2.2.1.below hb; rw [ckW_eq] at hb; have HB := hb; have HC := ck_cells hb; clear hb)
    | (go_at_call 97; refine (txn_unless _ _ _).mono ?_; rintro e w' ⟨rfl, rfl⟩)
    | (go_at_call 96; refine (txn_must_ok _ 1 _ [0] _ (by omega) (by exact Rd.new _ encI_len (by simp) rfl rfl) rfl).mono ?_; rintro e w' ⟨rfl, rfl⟩)
    | (go_at_call 98; refine (slices_Concat_new _ _ _ _ _ _ _ _ _ t.reads (keysOf t) _ (World.size_alloc _ _).symm (hrr.alloc _) (hrd.alloc _) (by omega)).mono ?_; rintro e w2 ⟨A2, c2, rfl, hrd2, hb⟩; have HB1 := Below.trans (Bel.alloc (Bel.alloc (Below.refl w1.heap.size w1) _) _) (hb.mono (by simp; omega)); (first | (replace HB := Bel.step HB hb) | (replace HB := Bel.step (Bel.alloc HB _) hb) | (replace HB := Bel.step (Bel.alloc (Bel.alloc HB _) _) hb) | (replace HB := Bel.step (Bel.alloc (Bel.alloc (Bel.alloc HB _) _) _) hb) | (replace HB := Bel.step (Bel.alloc (Bel.alloc (Bel.alloc (Bel.alloc HB _) _) _) _) hb) | (replace HB := Bel.step (Bel.alloc (Bel.alloc (Bel.alloc (Bel.alloc (Bel.alloc HB _) _) _) _) _) hb) | (replace HB := Bel.step (Bel.alloc (Bel.alloc (Bel.alloc (Bel.alloc (Bel.alloc (Bel.alloc HB _) _) _) _) _) _) hb) | (replace HB := Bel.step (Bel.drew HB) hb) | (replace HB := Bel.step (Bel.drewN HB _) hb) | (replace HB := Bel.step (Bel.alloc (Bel.drewN HB _) _) hb)); replace HC := ck_cells HB; clear hb))
  have hs2 := hrd2.2
  have hN := Lib.hid hrd2.1
  go_loopw [47] (fun i wr => ∃ k : Nat, k ≤ nr + ns ∧ i = .int .i64 k ∧ Below (ckW w ra nr rc ga ng gc sa ns sc).heap.size (ckW w ra nr rc ga ng gc sa ns sc) wr ∧ Below w2.heap.size w2 wr) (fun i _ => nr + ns - (intOf i).toNat)
  case atStart => exact ⟨0, by omega, rfl, HB, Below.refl _ _⟩
  case round =>
    obtain ⟨k, hk, rfl, HBr, HB2⟩ := hrel
    clear HC
    have HC := ck_cells HBr
    by_cases hlt : k < nr + ns
    · have hsr := hs2.below HB2
      obtain ⟨b, o, x, rfl, hbx, hx, hc⟩ := hsr.int (i := k) (by have := hN.out; omega)
      obtain ⟨x1, x2⟩ := isKeyB_true (hNO.out x (List.mem_of_getElem? hx.out))
      go_wp2_with (first
        | (go_at_call 97; refine (txn_unless _ _ _).mono ?_; rintro e w' ⟨rfl, rfl⟩)
        | (go_at_call 96; refine (txn_must_ok _ 1 _ [0] _ (by omega) (by exact Rd.new _ encI_len (by simp) rfl rfl) rfl).mono ?_; rintro e w' ⟨rfl, rfl⟩))
      go_roundw
      case rel => exact ⟨k + 1, by omega, by go_num, Bel.alloc HBr _, Bel.alloc HB2 _⟩
      case measure => simp [intOf]; omega
    · have HBx : Below w1.heap.size w1 wr := HB1.trans (HB2.mono HB1.size)
      have q1 := hrr.below HBx
      have q2 := hrd.below HBx
      clear HB
      have HB := HBr
      cases hq : rising t.reads with
      | false =>
        go_wp2_with (first
          | (go_at_call 99; refine (txn_rising _ _ _ t.reads _ (by omega) q1).mono ?_; rintro e w' ⟨rfl, hb⟩; (first | (replace HB := Bel.step HB hb) | (replace HB := Bel.step (Bel.alloc HB _) hb) | (replace HB := Bel.step (Bel.alloc (Bel.alloc HB _) _) hb) | (replace HB := Bel.step (Bel.alloc (Bel.alloc (Bel.alloc HB _) _) _) hb) | (replace HB := Bel.step (Bel.alloc (Bel.alloc (Bel.alloc (Bel.alloc HB _) _) _) _) hb) | (replace HB := Bel.step (Bel.alloc (Bel.alloc (Bel.alloc (Bel.alloc (Bel.alloc HB _) _) _) _) _) hb) | (replace HB := Bel.step (Bel.alloc (Bel.alloc (Bel.alloc (Bel.alloc (Bel.alloc (Bel.alloc HB _) _) _) _) _) _) hb) | (replace HB := Bel.step (Bel.drew HB) hb) | (replace HB := Bel.step (Bel.drewN HB _) hb) | (replace HB := Bel.step (Bel.alloc (Bel.drewN HB _) _) hb)); replace HC := ck_cells HB; clear hb)
          | (go_at_call 97; refine (txn_unless _ _ _).mono ?_; rintro e w' ⟨rfl, rfl⟩)
          | (go_at_call 96; refine (txn_must_no _ 1 _ [1] _ (by omega) (by exact Rd.new _ encI_len (by simp) rfl rfl) (by decide)).mono ?_; rintro e w' ⟨rfl, rfl⟩))
        exact ck_throw (ra := ra) (nr := nr) (rc := rc) (ga := ga) (ng := ng) (gc := gc) (sa := sa) (ns := ns) (sc := sc) (Bel.alloc HB _) (by rfl) rfl
      | true =>
        have hq2 : rising (keysOf t) = false := by rw [hq] at hri; simpa using hri
        clear hri
        go_wp2_with (first
          | (go_at_call_of 99 (Value.slice ra nr rc); refine (txn_rising _ _ _ t.reads _ (by omega) q1).mono ?_; rintro e w' ⟨rfl, hb⟩; have q3 := q2.below hb; (first | (replace HB := Bel.step HB hb) | (replace HB := Bel.step (Bel.alloc HB _) hb) | (replace HB := Bel.step (Bel.alloc (Bel.alloc HB _) _) hb) | (replace HB := Bel.step (Bel.alloc (Bel.alloc (Bel.alloc HB _) _) _) hb) | (replace HB := Bel.step (Bel.alloc (Bel.alloc (Bel.alloc (Bel.alloc HB _) _) _) _) hb) | (replace HB := Bel.step (Bel.alloc (Bel.alloc (Bel.alloc (Bel.alloc (Bel.alloc HB _) _) _) _) _) hb) | (replace HB := Bel.step (Bel.alloc (Bel.alloc (Bel.alloc (Bel.alloc (Bel.alloc (Bel.alloc HB _) _) _) _) _) _) hb) | (replace HB := Bel.step (Bel.drew HB) hb) | (replace HB := Bel.step (Bel.drewN HB _) hb) | (replace HB := Bel.step (Bel.alloc (Bel.drewN HB _) _) hb)); replace HC := ck_cells HB; clear hb)
          | (go_at_call_of 99 (Value.slice A ns c); refine (txn_rising _ _ _ (keysOf t) _ (by omega) q3).mono ?_; rintro e w' ⟨rfl, hb⟩; (first | (replace HB := Bel.step HB hb) | (replace HB := Bel.step (Bel.alloc HB _) hb) | (replace HB := Bel.step (Bel.alloc (Bel.alloc HB _) _) hb) | (replace HB := Bel.step (Bel.alloc (Bel.alloc (Bel.alloc HB _) _) _) hb) | (replace HB := Bel.step (Bel.alloc (Bel.alloc (Bel.alloc (Bel.alloc HB _) _) _) _) hb) | (replace HB := Bel.step (Bel.alloc (Bel.alloc (Bel.alloc (Bel.alloc (Bel.alloc HB _) _) _) _) _) hb) | (replace HB := Bel.step (Bel.alloc (Bel.alloc (Bel.alloc (Bel.alloc (Bel.alloc (Bel.alloc HB _) _) _) _) _) _) hb) | (replace HB := Bel.step (Bel.drew HB) hb) | (replace HB := Bel.step (Bel.drewN HB _) hb) | (replace HB := Bel.step (Bel.alloc (Bel.drewN HB _) _) hb)); replace HC := ck_cells HB; clear hb)
          | (go_at_call 97; refine (txn_unless _ _ _).mono ?_; rintro e w' ⟨rfl, rfl⟩)
          | (go_at_call 96; refine (txn_must_no _ 1 _ [1] _ (by omega) (by exact Rd.new _ encI_len (by simp) rfl rfl) (by decide)).mono ?_; rintro e w' ⟨rfl, rfl⟩))
        exact ck_throw (ra := ra) (nr := nr) (rc := rc) (ga := ga) (ng := ng) (gc := gc) (sa := sa) (ns := ns) (sc := sc) (Bel.alloc HB _) (by rfl) rfl

end Go.Proofs.Ytjgmbgfcffnanac
