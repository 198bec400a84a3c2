/- Lists of transactions as they lie in memory; store.Txns and the reference's CheckTxns. -/
import Derived.Test.YtjgmbgfcffnanacRefTxn
namespace Go.Proofs.Ytjgmbgfcffnanac
open Go.RowKit

structure TxnH where
  ra : Option Addr
  rc : Nat
  ga : Option Addr
  gc : Nat
  sa : Option Addr
  sc : Nat
  t : Txn
def TxnH.cells (h : TxnH) : List Value := [.slice h.ra h.t.reads.length h.rc, .slice h.ga h.t.guards.length h.gc, .slice h.sa h.t.sets.length h.sc]
theorem TxnH.cells_len (h : TxnH) : h.cells.length = 3 := rfl
theorem TxnH.one (h : TxnH) : ∀ u ∈ h.cells, u.oneCell' = true := by simp [TxnH.cells, Value.oneCell']
def TxnH.ok (w : World) (h : TxnH) : Prop := TxnAt w h.ra h.t.reads.length h.ga h.t.guards.length h.sa h.t.sets.length h.t
def TxnsAt (w : World) (A : Option Addr) (n : Nat) (hs : List TxnH) : Prop := Rd 3 TxnH.cells w A n hs ∧ ∀ h ∈ hs, h.ok w
def txnsOf (hs : List TxnH) : List Txn := hs.map (·.t)

section
variable {w w' : World} {A : Option Addr} {n : Nat} {hs : List TxnH}
theorem TxnsAt.below (h : TxnsAt w A n hs) (hb : Below w.heap.size w w') : TxnsAt w' A n hs := ⟨h.1.below hb, fun x hx => (h.2 x hx).below hb⟩
theorem TxnsAt.alloc (h : TxnsAt w A n hs) (o : Obj) : TxnsAt (w.alloc o) A n hs := h.below (Bel.alloc (Below.refl _ _) _)
theorem TxnsAt.drew (h : TxnsAt w A n hs) : TxnsAt w.drew A n hs := h
theorem TxnsAt.len (h : TxnsAt w A n hs) : (txnsOf hs).length = n := by rw [txnsOf, List.length_map]; exact h.1.1
theorem TxnsAt.get {k : Nat} (h : TxnsAt w A n hs) (hk : k < n) : ∃ b o ra nr rc ga ng gc sa ns sc t, A = some ⟨b, o, none⟩ ∧ b < w.heap.size ∧ Hid ((txnsOf hs)[k]? = some t) ∧
    w.cell? ⟨b, o + k * 3, none⟩ = some (.slice ra nr rc) ∧ w.cell? ⟨b, o + k * 3 + 1, none⟩ = some (.slice ga ng gc) ∧ w.cell? ⟨b, o + k * 3 + 2, none⟩ = some (.slice sa ns sc) ∧ TxnAt w ra nr ga ng sa ns t := by
  obtain ⟨x, hx⟩ := get_of_lt h.1.1 hk
  obtain ⟨b, o, hA, hb, hc⟩ := h.1.2.at_ hx.out
  refine ⟨b, o, x.ra, _, x.rc, x.ga, _, x.gc, x.sa, _, x.sc, x.t, hA, hb, ?_, hc 0 _ rfl, hc 1 _ rfl, hc 2 _ rfl, h.2 x (List.mem_of_getElem? hx.out)⟩
  show (hs.map (·.t))[k]? = some x.t
  rw [List.getElem?_map, hx.out]; rfl
end

def txErrs (t : Txn) : List Int := [checkTxn t]
def checkTxns (l : List Txn) : Int := if 8 < l.length then 2 else fe (l.flatMap txErrs)
theorem fe_one (x : Int) : fe [x] = x := by by_cases h : x = 0 <;> simp [fe, h]

set_option maxRecDepth 100000 in
set_option maxHeartbeats 2000000 in
theorem store_Txns (A : Option Addr) (n c : Nat) (hs : List TxnH) (w : World) (hn : n ≤ 9223372036854775807) (h : TxnsAt w A n hs) :
    Calls Try.prog 77 #[.slice A n c] w fun e w' => e = .returned (.int .i64 (checkTxns (txnsOf hs))) ∧ Below w.heap.size w w' := by
  have hlen := Lib.hid h.len
  by_cases h8 : 8 < n
  · have hres : Hid (checkTxns (txnsOf hs) = 2) := by show checkTxns _ = 2; rw [checkTxns, if_pos (by rw [hlen.out]; exact h8)]
    go_enter Try.func77, Try.ntmps77
    go_wp2
    go_ret
    exact ⟨retI hres.out.symm, Below.refl _ _⟩
  · have hdef : Hid (checkTxns (txnsOf hs) = fe ((txnsOf hs).flatMap txErrs)) := by show checkTxns _ = _; rw [checkTxns, if_neg (by rw [hlen.out]; exact h8)]
    have hz0 : Hid (fe (((txnsOf hs).take 0).flatMap txErrs) = 0) := by show fe _ = 0; simp [fe]
    go_enter Try.func77, Try.ntmps77
    go_wp2
    go_loopw [11] (fun i wr => ∃ k : Nat, k ≤ n ∧ i = .int .i64 k ∧ Hid (fe (((txnsOf hs).take k).flatMap txErrs) = 0) ∧ Below w.heap.size w wr) (fun i _ => n - (intOf i).toNat)
    case atStart => exact ⟨0, by omega, rfl, hz0, Below.refl _ _⟩
    case round =>
      obtain ⟨k, hk, rfl, hfe, HB⟩ := hrel
      by_cases hlt : k < n
      · obtain ⟨b, o, ra, nr, rc, ga, ng, gc, sa, ns, sc, t, rfl, hbx, hx, c0, c1, c2, ht⟩ := (h.below HB).get hlt
        by_cases hz : checkTxn t = 0
        · have hnext := Lib.hid (fe_flat_next (F := txErrs) hfe.out hx.out (by rw [txErrs, fe_one]; exact hz))
          have u1 : (checkTxn t != 0) = false := by simp [hz]
          clear hz
          go_wp2_with (go_at_call 41; refine (txn_Check _ _ _ _ _ _ _ _ _ t _ (ht.alloc _)).mono ?_; rintro e w1 ⟨rfl, hb⟩)
          go_roundw
          case rel => exact ⟨k + 1, by omega, by go_num, hnext, Bel.step (Bel.alloc HB _) hb⟩
          case measure => simp [intOf]; omega
        · have hq := Lib.hid (fe_flat_at (F := txErrs) hfe.out hx.out (by rw [txErrs, fe_one]; exact hz) [])
          have hres : Hid (checkTxns (txnsOf hs) = checkTxn t) := by have h2 := hq.out; rw [List.append_nil, txErrs, fe_one] at h2; exact hdef.out.trans h2
          have u1 : (checkTxn t != 0) = true := by simp [hz]
          clear hz
          go_wp2_with (go_at_call 41; refine (txn_Check _ _ _ _ _ _ _ _ _ t _ (ht.alloc _)).mono ?_; rintro e w1 ⟨rfl, hb⟩)
          go_ret
          exact ⟨retI hres.out.symm, Bel.step (Bel.alloc HB _) hb⟩
      · have hres : Hid (checkTxns (txnsOf hs) = 0) := by
          have := hfe.out
          rw [List.take_of_length_le (by have := hlen.out; omega)] at this
          exact hdef.out.trans this
        go_wp2
        go_ret
        exact ⟨retI hres.out.symm, HB⟩

set_option maxRecDepth 100000 in
set_option maxHeartbeats 2000000 in
theorem ref_CheckTxns (A : Option Addr) (n c : Nat) (hs : List TxnH) (w : World) (hn : n ≤ 9223372036854775807) (h : TxnsAt w A n hs) :
    Calls Try.prog 58 #[.slice A n c] w fun e w' => e = .returned (.int .i64 (checkTxns (txnsOf hs))) ∧ Below w.heap.size w w' := by
  have hlen := Lib.hid h.len
  by_cases h8 : 8 < n
  · have hres : Hid (checkTxns (txnsOf hs) = 2) := by show checkTxns _ = 2; rw [checkTxns, if_pos (by rw [hlen.out]; exact h8)]
    go_enter Try.func58, Try.ntmps58
    go_wp2
    go_ret
    exact ⟨retI hres.out.symm, Below.refl _ _⟩
  · have hdef : Hid (checkTxns (txnsOf hs) = fe ((txnsOf hs).flatMap txErrs)) := by show checkTxns _ = _; rw [checkTxns, if_neg (by rw [hlen.out]; exact h8)]
    have hz0 : Hid (fe (((txnsOf hs).take 0).flatMap txErrs) = 0) := by show fe _ = 0; simp [fe]
    go_enter Try.func58, Try.ntmps58
    go_wp2
    go_loopw [3] (fun i wr => ∃ k : Nat, k ≤ n ∧ i = .int .i64 k ∧ Hid (fe (((txnsOf hs).take k).flatMap txErrs) = 0) ∧ Below w.heap.size w wr) (fun i _ => n - (intOf i).toNat)
    case atStart => exact ⟨0, by omega, rfl, hz0, Below.refl _ _⟩
    case round =>
      obtain ⟨k, hk, rfl, hfe, HB⟩ := hrel
      by_cases hlt : k < n
      · obtain ⟨b, o, ra, nr, rc, ga, ng, gc, sa, ns, sc, t, rfl, hbx, hx, c0, c1, c2, ht⟩ := (h.below HB).get hlt
        by_cases hz : checkTxn t = 0
        · have hnext := Lib.hid (fe_flat_next (F := txErrs) hfe.out hx.out (by rw [txErrs, fe_one]; exact hz))
          have u1 : (checkTxn t != 0) = false := by simp [hz]
          clear hz
          go_wp2_with (go_at_call 38; refine (ref_CheckTxn _ _ _ _ _ _ _ _ _ t _ ht).mono ?_; rintro e w1 ⟨rfl, hb⟩)
          go_roundw
          case rel => exact ⟨k + 1, by omega, by go_num, hnext, Bel.step HB hb⟩
          case measure => simp [intOf]; omega
        · have hq := Lib.hid (fe_flat_at (F := txErrs) hfe.out hx.out (by rw [txErrs, fe_one]; exact hz) [])
          have hres : Hid (checkTxns (txnsOf hs) = checkTxn t) := by have h2 := hq.out; rw [List.append_nil, txErrs, fe_one] at h2; exact hdef.out.trans h2
          have u1 : (checkTxn t != 0) = true := by simp [hz]
          clear hz
          go_wp2_with (go_at_call 38; refine (ref_CheckTxn _ _ _ _ _ _ _ _ _ t _ ht).mono ?_; rintro e w1 ⟨rfl, hb⟩)
          go_ret
          exact ⟨retI hres.out.symm, Bel.step HB hb⟩
      · have hres : Hid (checkTxns (txnsOf hs) = 0) := by
          have := hfe.out
          rw [List.take_of_length_le (by have := hlen.out; omega)] at this
          exact hdef.out.trans this
        go_wp2
        go_ret
        exact ⟨retI hres.out.symm, HB⟩

end Go.Proofs.Ytjgmbgfcffnanac
