/- The reference's CheckTxn answers what the document says. -/
import Derived.Test.YtjgmbgfcffnanacTxn7
import Derived.Deep.QuietTactic
import Derived.BigQuiet
namespace Go.Proofs.Ytjgmbgfcffnanac
open Go.RowKit

set_option maxHeartbeats 400000 in
theorem ref_isKey (x : Int) (w : World) : Calls Try.prog 89 #[.int .i64 x] w fun e w' => e = .returned (.bool (isKeyB x)) ∧ w = w' := by
  go_enter Try.func89, Try.ntmps89
  go_wp2
  all_goals
    go_ret
    refine ⟨retB ?_, rfl⟩
    simp [isKeyB]
    try omega

theorem not_all_key {t : Txn} {x : Int} (hs : sizesOk t) (hx : x ∈ t.reads ++ keysOf t) (hk : isKeyB x = false) : checkTxn t = 3 := by
  refine checkTxn_keys hs ?_
  cases h : (t.reads ++ keysOf t).all isKeyB with
  | false => rfl
  | true => rw [List.all_eq_true.1 h x hx] at hk; cases hk
theorem all_key {t : Txn} (h1 : KeysTo t.reads.length t.reads) (h2 : KeysTo (keysOf t).length (keysOf t)) : (t.reads ++ keysOf t).all isKeyB = true := by
  rw [List.all_append, h1.all (Nat.le_refl _), h2.all (Nat.le_refl _)]; rfl
theorem keysOf_get {t : Txn} {j : Nat} {s : SetT} (h : t.sets[j]? = some s) : (keysOf t)[j]? = some s.key := by
  show (t.sets.map (·.key))[j]? = some s.key
  rw [List.getElem?_map, h]; rfl

/- the world behind the boxing of the parameter -/
def rkW (w : World) (ra : Option Addr) (nr rc : Nat) (ga : Option Addr) (ng gc : Nat) (sa : Option Addr) (ns sc : Nat) : World :=
  w.alloc (.cells #[.slice ra nr rc, .slice ga ng gc, .slice sa ns sc] 72)
section
variable {w wc : World} {ra : Option Addr} {nr rc : Nat} {ga : Option Addr} {ng gc : Nat} {sa : Option Addr} {ns sc : Nat}
theorem rkW_eq : w.alloc (.cells #[.slice ra nr rc, .slice ga ng gc, .slice sa ns sc] 72) = rkW w ra nr rc ga ng gc sa ns sc := rfl
theorem rkW_size : (rkW w ra nr rc ga ng gc sa ns sc).heap.size = w.heap.size + 1 := by simp [rkW]
theorem rk_below (h : Below (rkW w ra nr rc ga ng gc sa ns sc).heap.size (rkW w ra nr rc ga ng gc sa ns sc) wc) : Below w.heap.size w wc := Bel.step (Bel.alloc (Below.refl _ _) _) h
theorem rk_cells (h : Below (rkW w ra nr rc ga ng gc sa ns sc).heap.size (rkW w ra nr rc ga ng gc sa ns sc) wc) :
    wc.cell? ⟨w.heap.size, 0, none⟩ = some (.slice ra nr rc) ∧ wc.cell? ⟨w.heap.size, 1, none⟩ = some (.slice ga ng gc) ∧ wc.cell? ⟨w.heap.size, 2, none⟩ = some (.slice sa ns sc) ∧
    w.heap.size < wc.heap.size ∧ w.heap.size ≤ wc.heap.size ∧ (∀ n, w.heap.size < wc.heap.size + n) := by
  have hs := h.size
  rw [rkW_size] at hs
  refine ⟨(h.cell (by rw [rkW_size]; simp)).trans ?_, (h.cell (by rw [rkW_size]; simp)).trans ?_, (h.cell (by rw [rkW_size]; simp)).trans ?_, by omega, by omega, fun n => by omega⟩
  all_goals simp [rkW, go_sem]
end

set_option maxRecDepth 100000 in
set_option maxHeartbeats 16000000 in
theorem ref_CheckTxn (ra ga sa : Option Addr) (nr rc ng gc ns sc : Nat) (t : Txn) (w : World) (h : TxnAt w ra nr ga ng sa ns t) :
    Calls Try.prog 38 #[.agg #[.slice ra nr rc, .slice ga ng gc, .slice sa ns sc]] w fun e w' => e = .returned (.int .i64 (checkTxn t)) ∧ Below w.heap.size w w' := by
  have hW := h.alloc (.cells #[.slice ra nr rc, .slice ga ng gc, .slice sa ns sc] 72)
  rw [rkW_eq] at hW
  have HB : Below (rkW w ra nr rc ga ng gc sa ns sc).heap.size (rkW w ra nr rc ga ng gc sa ns sc) (w.alloc (.cells #[.slice ra nr rc, .slice ga ng gc, .slice sa ns sc] 72)) := Below.refl _ _
  have HC := rk_cells HB
  have hns := h.2.2.2.2.2
  have hng := h.2.2.2.2.1
  have hnr := h.2.2.2.1
  by_cases hno : ¬ (nr ≤ 4 ∧ ng ≤ 2 ∧ 0 < ns ∧ ns ≤ 3)
  · have hres : Hid (checkTxn t = 2) := checkTxn_sizes (fun hh => hno ⟨by have := h.1.1; have := hh.1; omega, by have := h.2.1.1; have := hh.2.1; omega, by have := h.2.2.1.1; have := hh.2.2.1; omega, by have := h.2.2.1.1; have := hh.2.2.2; omega⟩)
    by_cases a3 : ns ≤ 3
    all_goals
      first
        | have b3 : decide ((ns : Int) ≤ 3) = true := by simp; omega
        | have b3 : decide ((ns : Int) ≤ 3) = false := by simp; omega
      go_enter Try.func38, Try.ntmps38
      go_wp2_with (first | (go_at_call 57; go_in))
      all_goals
        go_ret
        exact ⟨retI hres.out.symm, rk_below HB⟩
  · have a1 : nr ≤ 4 := by omega
    have a2 : ng ≤ 2 := by omega
    have a3 : ns ≤ 3 := by omega
    have a4 : 1 ≤ ns := by omega
    have hsz : Hid (sizesOk t) := ⟨by have := h.1.1; omega, by have := h.2.1.1; omega, by have := h.2.2.1.1; omega, by have := h.2.2.1.1; omega⟩
    clear hno
    obtain ⟨rr, rg, rs, _, _, _⟩ := h
    have lr := Lib.hid rr.1
    have lg := Lib.hid rg.1
    have ls := Lib.hid rs.1
    have b3 : decide ((ns : Int) ≤ 3) = true := by simp; omega
    go_enter Try.func38, Try.ntmps38
    go_wp2_with (first | (go_at_call 57; go_in))
    go_loop [3] (fun i => ∃ k : Nat, k ≤ nr ∧ i = .int .i64 k ∧ KeysTo k t.reads) (fun i => nr - (intOf i).toNat)
    case atStart => exact ⟨0, by omega, rfl, fun j x hj => by omega⟩
    case round =>
      obtain ⟨k, hk, rfl, hK⟩ := hrel
      by_cases hlt : k < nr
      · obtain ⟨b, o, x, rfl, hbx, hx, hc⟩ := rr.2.int (i := k) (by have := lr.out; omega)
        cases hxk : isKeyB x with
        | true =>
          have hK2 := hK.next hx.out hxk
          go_wp2_with (go_at_call 89; refine (ref_isKey _ _).mono ?_; rintro e w' ⟨rfl, rfl⟩)
          go_round
          case rel => exact ⟨k + 1, by omega, by go_num, hK2⟩
          case measure => simp [intOf]; omega
        | false =>
          have hres : Hid (checkTxn t = 3) := not_all_key hsz.out (List.mem_append_left _ (List.mem_of_getElem? hx.out)) hxk
          go_wp2_with (go_at_call 89; refine (ref_isKey _ _).mono ?_; rintro e w' ⟨rfl, rfl⟩)
          go_ret
          exact ⟨retI hres.out.symm, rk_below HB⟩
      · obtain rfl : nr = k := by omega
        go_wp2
        go_loop [4] (fun i => ∃ j : Nat, j ≤ ns ∧ i = .int .i64 j ∧ KeysTo j (keysOf t)) (fun i => ns - (intOf i).toNat)
        case atStart => exact ⟨0, by omega, rfl, fun j x hj => by omega⟩
        case round =>
          obtain ⟨j, hj, rfl, hK2⟩ := hrel
          by_cases hlt2 : j < ns
          · obtain ⟨b, o, key, op, ak, an, bk, bn, rfl, hbx, hx, c0, c1, c2, c3, c4, c5⟩ := get_set rs hlt2
            have hxk2 := Lib.hid (keysOf_get hx.out)
            cases hxk : isKeyB key with
            | true =>
              have hK3 := hK2.next hxk2.out hxk
              go_wp2_with (go_at_call 89; refine (ref_isKey _ _).mono ?_; rintro e w' ⟨rfl, rfl⟩)
              go_round
              case rel => exact ⟨j + 1, by omega, by go_num, hK3⟩
              case measure => simp [intOf]; omega
            | false =>
              have hres : Hid (checkTxn t = 3) := not_all_key hsz.out (List.mem_append_right _ (List.mem_of_getElem? hxk2.out)) hxk
              go_wp2_with (go_at_call 89; refine (ref_isKey _ _).mono ?_; rintro e w' ⟨rfl, rfl⟩)
              go_ret
              exact ⟨retI hres.out.symm, rk_below HB⟩
          · obtain rfl : ns = j := by omega
            have hall : Hid ((t.reads ++ keysOf t).all isKeyB = true) := all_key (by rw [lr.out]; exact hK) (by rw [keysOf_length, ls.out]; exact hK2)
            go_wp2
            have HX := HB
            clear HB HC
            go_loopw [5] (fun i wr => ∃ q : Nat, q + 1 ≤ max nr 1 ∧ i = .int .i64 (q + 1) ∧ RisUp (q + 1) t.reads ∧ Below (rkW w ra nr rc ga ng gc sa ns sc).heap.size (rkW w ra nr rc ga ng gc sa ns sc) wr) (fun i _ => nr + 1 - (intOf i).toNat)
            case atStart => exact ⟨0, by omega, rfl, RisUp.one _, HX⟩
            case round =>
              obtain ⟨q, hq, rfl, hr, HB⟩ := hrel
              have HC := rk_cells HB
              by_cases hlt3 : q + 1 < nr
              · have hsr := (rr.below (rk_below HB)).2
                obtain ⟨b, o, x, rfl, hb, hx, hc⟩ := hsr.int (i := q) (by have := lr.out; omega)
                obtain ⟨b', o', y, hA, _, hy, hc'⟩ := hsr.int (i := q + 1) (by have := lr.out; omega)
                injection hA with hA
                injection hA with e1 e2
                subst e1 e2
                have i1 : (0 : Int) ≤ (q : Int) := by omega
                have i2 : (q : Int) < (nr : Int) := by omega
                have i3 : (q : Int) + 1 < (nr : Int) := by omega
                have i4 : (0 : Int) ≤ (q : Int) + 1 := by omega
                by_cases hxy : y ≤ x
                · have hres : Hid (checkTxn t = 1) := checkTxn_rising hsz.out hall.out (by rw [rising_not hx.out hy.out hxy]; rfl)
                  go_wp2
                  have z1 : IntKind.i64.wrap (q : Int) = (q : Int) := IntWalk.i64_in _ (by omega)
                  have z2 : ((q : Int) + 1).toNat = q + 1 := by omega
                  go_quiet (fail)
                  clear z1 z2
                  go_wp2
                  go_ret
                  exact ⟨retI hres.out.symm, Bel.drewN (rk_below HB) _⟩
                · have hn : x < y := by omega
                  have hres := RisUp.next hr hx.out hy.out hn
                  go_wp2
                  have z1 : IntKind.i64.wrap (q : Int) = (q : Int) := IntWalk.i64_in _ (by omega)
                  have z2 : ((q : Int) + 1).toNat = q + 1 := by omega
                  go_quiet (fail)
                  clear z1 z2
                  go_wp2
                  go_roundw
                  case rel => exact ⟨q + 1, by omega, by go_num, hres, Bel.drewN HB _⟩
                  case measure => simp [intOf]; omega
              · have hris1 : Hid (rising t.reads = true) := hr.all (by have := lr.out; omega)
                go_wp2
                have HX := HB
                clear HB HC
                go_loopw [6] (fun i wr => ∃ p : Nat, p + 1 ≤ max ns 1 ∧ i = .int .i64 (p + 1) ∧ RisUp (p + 1) (keysOf t) ∧ Below (rkW w ra nr rc ga ng gc sa ns sc).heap.size (rkW w ra nr rc ga ng gc sa ns sc) wr) (fun i _ => ns + 1 - (intOf i).toNat)
                case atStart => exact ⟨0, by omega, rfl, RisUp.one _, HX⟩
                case round =>
                  obtain ⟨p, hp, rfl, hr2, HB⟩ := hrel
                  have HC := rk_cells HB
                  by_cases hlt4 : p + 1 < ns
                  · have hsr := rs.below (rk_below HB)
                    obtain ⟨b, o, x, op, ak, an, bk, bn, rfl, hbx, hx0, hc, _, _, _, _, _⟩ := get_set hsr (k := p) (by omega)
                    obtain ⟨b', o', y, op', ak', an', bk', bn', hA, _, hy0, hc', _, _, _, _, _⟩ := get_set hsr hlt4
                    injection hA with hA
                    injection hA with e1 e2
                    subst e1 e2
                    have hx := Lib.hid (keysOf_get hx0.out)
                    have hy := Lib.hid (keysOf_get hy0.out)
                    have i1 : (0 : Int) ≤ (p : Int) := by omega
                    have i2 : (p : Int) < (ns : Int) := by omega
                    have i3 : (p : Int) + 1 < (ns : Int) := by omega
                    have i4 : (0 : Int) ≤ (p : Int) + 1 := by omega
                    by_cases hxy : y ≤ x
                    · have hres : Hid (checkTxn t = 1) := checkTxn_rising hsz.out hall.out (by rw [rising_not hx.out hy.out hxy, Bool.and_false])
                      go_wp2
                      have z1 : IntKind.i64.wrap (p : Int) = (p : Int) := IntWalk.i64_in _ (by omega)
                      have z2 : ((p : Int) + 1).toNat = p + 1 := by omega
                      go_quiet (fail)
                      clear z1 z2
                      go_wp2
                      go_ret
                      exact ⟨retI hres.out.symm, Bel.drewN (rk_below HB) _⟩
                    · have hn : x < y := by omega
                      have hres := RisUp.next hr2 hx.out hy.out hn
                      go_wp2
                      have z1 : IntKind.i64.wrap (p : Int) = (p : Int) := IntWalk.i64_in _ (by omega)
                      have z2 : ((p : Int) + 1).toNat = p + 1 := by omega
                      go_quiet (fail)
                      clear z1 z2
                      go_wp2
                      go_roundw
                      case rel => exact ⟨p + 1, by omega, by go_num, hres, Bel.drewN HB _⟩
                      case measure => simp [intOf]; omega
                  · have hris : Hid ((rising t.reads && rising (keysOf t)) = true) := by
                      have := hr2.all (by rw [keysOf_length]; have := ls.out; omega)
                      show (rising t.reads && rising (keysOf t)) = true
                      rw [hris1.out, this]; rfl
                    have hfin := Lib.hid (checkTxn_parts hsz.out hall.out hris.out)
                    go_wp2
                    have HX := HB
                    clear HB HC
                    have hz0 : Hid (fe ((t.guards.take 0).flatMap (gErrs nr)) = 0) := by show fe _ = 0; simp [fe]
                    go_loopw [7] (fun i wr => ∃ m : Nat, m ≤ ng ∧ i = .int .i64 m ∧ Hid (fe ((t.guards.take m).flatMap (gErrs nr)) = 0) ∧ Below (rkW w ra nr rc ga ng gc sa ns sc).heap.size (rkW w ra nr rc ga ng gc sa ns sc) wr) (fun i _ => ng - (intOf i).toNat)
                    case atStart => exact ⟨0, by omega, rfl, hz0, HX⟩
                    case round =>
                      obtain ⟨m, hm, rfl, hfe, HB⟩ := hrel
                      have HC := rk_cells HB
                      by_cases hmlt : m < ng
                      · obtain ⟨b, o, gk, ak, an, bk, bn, rfl, hbx, hx, c0, c1, c2, c3, c4⟩ := get_guard (rg.below (rk_below HB)) hmlt
                        have HQ := Below.refl (wr.alloc (.cells #[.int .i64 gk, .int .i64 ak, .int .i64 an, .int .i64 bk, .int .i64 bn] 89)).heap.size (wr.alloc (.cells #[.int .i64 gk, .int .i64 ak, .int .i64 an, .int .i64 bk, .int .i64 bn] 89))
                        have hq := Lib.hid (fun h1 => fe_flat_at (F := gErrs nr) hfe.out hx.out h1 (t.sets.flatMap (sErrs nr)))
                        have hpe : Hid (checkTxn t = fe (t.guards.flatMap (gErrs nr) ++ t.sets.flatMap (sErrs nr))) := by have := hfin.out; rw [this, partErrs, lr.out]; rfl
                        by_cases t1 : holdsE gk = 0
                        · by_cases t2 : checkOp ak an nr = 0
                          · by_cases t3 : checkOp bk bn nr = 0
                            · have hnext := Lib.hid (fe_flat_next (F := gErrs nr) hfe.out hx.out (by simp [gErrs, fe, t1, t2, t3]))
                              have u1 : (holdsE gk != 0) = false := by simp [t1]
                              have u2 : (checkOp ak an nr != 0) = false := by simp [t2]
                              have u3 : (checkOp bk bn nr != 0) = false := by simp [t3]
                              clear t1 t2 t3
                              go_wp2_with (first
                        | (go_at_call 90; refine (ref_HoldsOf _ _ _ _).mono ?_; rintro e w' ⟨rfl, rfl⟩)
                        | (go_at_call 91; refine (ref_CheckOperand _ _ _ _).mono ?_; rintro e w' ⟨rfl, hb⟩; (first | (replace HQ := Bel.step HQ hb) | (replace HQ := Bel.step (Bel.drew HQ) hb) | (replace HQ := Bel.step (Bel.alloc HQ _) hb) | (replace HQ := Bel.step (Bel.alloc (Bel.drew HQ) _) hb) | (replace HQ := Bel.step (Bel.alloc (Bel.alloc HQ _) _) hb)); have HG := gS HQ; have HBn := Bel.step (Bel.alloc HB _) HQ; have HC2 := rk_cells HBn; clear hb))
                              go_roundw
                              case rel => exact ⟨m + 1, by omega, by go_num, hnext, HBn⟩
                              case measure => simp [intOf]; omega
                            · have h1 := Lib.hid (show fe (gErrs nr ⟨gk, ⟨ak, an⟩, ⟨bk, bn⟩⟩) = checkOp bk bn nr by simp [gErrs, fe, t1, t2, t3])
                              have hres : Hid (checkTxn t = checkOp bk bn nr) := (hpe.out.trans (hq.out (by rw [h1.out]; exact t3))).trans h1.out
                              have u1 : (holdsE gk != 0) = false := by simp [t1]
                              have u2 : (checkOp ak an nr != 0) = false := by simp [t2]
                              have u3 : (checkOp bk bn nr != 0) = true := by simp [t3]
                              clear t1 t2 t3
                              go_wp2_with (first
                        | (go_at_call 90; refine (ref_HoldsOf _ _ _ _).mono ?_; rintro e w' ⟨rfl, rfl⟩)
                        | (go_at_call 91; refine (ref_CheckOperand _ _ _ _).mono ?_; rintro e w' ⟨rfl, hb⟩; (first | (replace HQ := Bel.step HQ hb) | (replace HQ := Bel.step (Bel.drew HQ) hb) | (replace HQ := Bel.step (Bel.alloc HQ _) hb) | (replace HQ := Bel.step (Bel.alloc (Bel.drew HQ) _) hb) | (replace HQ := Bel.step (Bel.alloc (Bel.alloc HQ _) _) hb)); have HG := gS HQ; have HBn := Bel.step (Bel.alloc HB _) HQ; have HC2 := rk_cells HBn; clear hb))
                              go_ret
                              exact ⟨retI hres.out.symm, rk_below HBn⟩
                          · have h1 := Lib.hid (show fe (gErrs nr ⟨gk, ⟨ak, an⟩, ⟨bk, bn⟩⟩) = checkOp ak an nr by simp [gErrs, fe, t1, t2])
                            have hres : Hid (checkTxn t = checkOp ak an nr) := (hpe.out.trans (hq.out (by rw [h1.out]; exact t2))).trans h1.out
                            have u1 : (holdsE gk != 0) = false := by simp [t1]
                            have u2 : (checkOp ak an nr != 0) = true := by simp [t2]
                            clear t1 t2
                            go_wp2_with (first
                        | (go_at_call 90; refine (ref_HoldsOf _ _ _ _).mono ?_; rintro e w' ⟨rfl, rfl⟩)
                        | (go_at_call 91; refine (ref_CheckOperand _ _ _ _).mono ?_; rintro e w' ⟨rfl, hb⟩; (first | (replace HQ := Bel.step HQ hb) | (replace HQ := Bel.step (Bel.drew HQ) hb) | (replace HQ := Bel.step (Bel.alloc HQ _) hb) | (replace HQ := Bel.step (Bel.alloc (Bel.drew HQ) _) hb) | (replace HQ := Bel.step (Bel.alloc (Bel.alloc HQ _) _) hb)); have HG := gS HQ; have HBn := Bel.step (Bel.alloc HB _) HQ; have HC2 := rk_cells HBn; clear hb))
                            go_ret
                            exact ⟨retI hres.out.symm, rk_below HBn⟩
                        · have h1 := Lib.hid (show fe (gErrs nr ⟨gk, ⟨ak, an⟩, ⟨bk, bn⟩⟩) = holdsE gk by simp [gErrs, fe, t1])
                          have hres : Hid (checkTxn t = holdsE gk) := (hpe.out.trans (hq.out (by rw [h1.out]; exact t1))).trans h1.out
                          have u1 : (holdsE gk != 0) = true := by simp [t1]
                          clear t1
                          go_wp2_with (first
                        | (go_at_call 90; refine (ref_HoldsOf _ _ _ _).mono ?_; rintro e w' ⟨rfl, rfl⟩)
                        | (go_at_call 91; refine (ref_CheckOperand _ _ _ _).mono ?_; rintro e w' ⟨rfl, hb⟩; (first | (replace HQ := Bel.step HQ hb) | (replace HQ := Bel.step (Bel.drew HQ) hb) | (replace HQ := Bel.step (Bel.alloc HQ _) hb) | (replace HQ := Bel.step (Bel.alloc (Bel.drew HQ) _) hb) | (replace HQ := Bel.step (Bel.alloc (Bel.alloc HQ _) _) hb)); have HG := gS HQ; have HBn := Bel.step (Bel.alloc HB _) HQ; have HC2 := rk_cells HBn; clear hb))
                          go_ret
                          exact ⟨retI hres.out.symm, Bel.alloc (rk_below HB) _⟩
                      · have hG : Hid (fe (t.guards.flatMap (gErrs nr)) = 0) := by
                          have := hfe.out
                          rwa [List.take_of_length_le (by have := lg.out; omega)] at this
                        go_wp2
                        have HX := HB
                        clear HB HC
                        have hz0' : Hid (fe ((t.sets.take 0).flatMap (sErrs nr)) = 0) := by show fe _ = 0; simp [fe]
                        go_loopw [13] (fun i wr => ∃ v : Nat, v ≤ ns ∧ i = .int .i64 v ∧ Hid (fe ((t.sets.take v).flatMap (sErrs nr)) = 0) ∧ Below (rkW w ra nr rc ga ng gc sa ns sc).heap.size (rkW w ra nr rc ga ng gc sa ns sc) wr) (fun i _ => ns - (intOf i).toNat)
                        case atStart => exact ⟨0, by omega, rfl, hz0', HX⟩
                        case round =>
                          obtain ⟨v, hv, rfl, hfs, HB⟩ := hrel
                          have HC := rk_cells HB
                          have hpe : Hid (checkTxn t = fe (t.sets.flatMap (sErrs nr))) := by have := hfin.out; rw [this, partErrs, lr.out, fe_append, if_pos hG.out]; rfl
                          by_cases hvlt : v < ns
                          · obtain ⟨b, o, key, op, ak, an, bk, bn, rfl, hbx, hx, c0, c1, c2, c3, c4, c5⟩ := get_set (rs.below (rk_below HB)) hvlt
                            have HQ := Below.refl (wr.alloc (.cells #[.int .i64 key, .int .i64 op, .int .i64 ak, .int .i64 an, .int .i64 bk, .int .i64 bn] 141)).heap.size (wr.alloc (.cells #[.int .i64 key, .int .i64 op, .int .i64 ak, .int .i64 an, .int .i64 bk, .int .i64 bn] 141))
                            have hq := Lib.hid (fun h1 => fe_flat_at (F := sErrs nr) hfs.out hx.out h1 [])
                            by_cases t1 : reckonE op = 0
                            · by_cases t2 : checkOp ak an nr = 0
                              · by_cases t3 : checkOp bk bn nr = 0
                                · have hnext := Lib.hid (fe_flat_next (F := sErrs nr) hfs.out hx.out (by simp [sErrs, fe, t1, t2, t3]))
                                  have u1 : (reckonE op != 0) = false := by simp [t1]
                                  have u2 : (checkOp ak an nr != 0) = false := by simp [t2]
                                  have u3 : (checkOp bk bn nr != 0) = false := by simp [t3]
                                  clear t1 t2 t3
                                  go_wp2_with (first
                              | (go_at_call 92; refine (ref_ReckonOf _ _ _ _).mono ?_; rintro e w' ⟨rfl, rfl⟩)
                              | (go_at_call 91; refine (ref_CheckOperand _ _ _ _).mono ?_; rintro e w' ⟨rfl, hb⟩; (first | (replace HQ := Bel.step HQ hb) | (replace HQ := Bel.step (Bel.drew HQ) hb) | (replace HQ := Bel.step (Bel.alloc HQ _) hb) | (replace HQ := Bel.step (Bel.alloc (Bel.drew HQ) _) hb) | (replace HQ := Bel.step (Bel.alloc (Bel.alloc HQ _) _) hb)); have HG := sS HQ; have HBn := Bel.step (Bel.alloc HB _) HQ; have HC2 := rk_cells HBn; clear hb))
                                  go_roundw
                                  case rel => exact ⟨v + 1, by omega, by go_num, hnext, HBn⟩
                                  case measure => simp [intOf]; omega
                                · have h1 := Lib.hid (show fe (sErrs nr ⟨key, op, ⟨ak, an⟩, ⟨bk, bn⟩⟩) = checkOp bk bn nr by simp [sErrs, fe, t1, t2, t3])
                                  have hres : Hid (checkTxn t = checkOp bk bn nr) := by have h2 := hq.out (by rw [h1.out]; exact t3); rw [List.append_nil] at h2; exact (hpe.out.trans h2).trans h1.out
                                  have u1 : (reckonE op != 0) = false := by simp [t1]
                                  have u2 : (checkOp ak an nr != 0) = false := by simp [t2]
                                  have u3 : (checkOp bk bn nr != 0) = true := by simp [t3]
                                  clear t1 t2 t3
                                  go_wp2_with (first
                              | (go_at_call 92; refine (ref_ReckonOf _ _ _ _).mono ?_; rintro e w' ⟨rfl, rfl⟩)
                              | (go_at_call 91; refine (ref_CheckOperand _ _ _ _).mono ?_; rintro e w' ⟨rfl, hb⟩; (first | (replace HQ := Bel.step HQ hb) | (replace HQ := Bel.step (Bel.drew HQ) hb) | (replace HQ := Bel.step (Bel.alloc HQ _) hb) | (replace HQ := Bel.step (Bel.alloc (Bel.drew HQ) _) hb) | (replace HQ := Bel.step (Bel.alloc (Bel.alloc HQ _) _) hb)); have HG := sS HQ; have HBn := Bel.step (Bel.alloc HB _) HQ; have HC2 := rk_cells HBn; clear hb))
                                  go_ret
                                  exact ⟨retI hres.out.symm, rk_below HBn⟩
                              · have h1 := Lib.hid (show fe (sErrs nr ⟨key, op, ⟨ak, an⟩, ⟨bk, bn⟩⟩) = checkOp ak an nr by simp [sErrs, fe, t1, t2])
                                have hres : Hid (checkTxn t = checkOp ak an nr) := by have h2 := hq.out (by rw [h1.out]; exact t2); rw [List.append_nil] at h2; exact (hpe.out.trans h2).trans h1.out
                                have u1 : (reckonE op != 0) = false := by simp [t1]
                                have u2 : (checkOp ak an nr != 0) = true := by simp [t2]
                                clear t1 t2
                                go_wp2_with (first
                              | (go_at_call 92; refine (ref_ReckonOf _ _ _ _).mono ?_; rintro e w' ⟨rfl, rfl⟩)
                              | (go_at_call 91; refine (ref_CheckOperand _ _ _ _).mono ?_; rintro e w' ⟨rfl, hb⟩; (first | (replace HQ := Bel.step HQ hb) | (replace HQ := Bel.step (Bel.drew HQ) hb) | (replace HQ := Bel.step (Bel.alloc HQ _) hb) | (replace HQ := Bel.step (Bel.alloc (Bel.drew HQ) _) hb) | (replace HQ := Bel.step (Bel.alloc (Bel.alloc HQ _) _) hb)); have HG := sS HQ; have HBn := Bel.step (Bel.alloc HB _) HQ; have HC2 := rk_cells HBn; clear hb))
                                go_ret
                                exact ⟨retI hres.out.symm, rk_below HBn⟩
                            · have h1 := Lib.hid (show fe (sErrs nr ⟨key, op, ⟨ak, an⟩, ⟨bk, bn⟩⟩) = reckonE op by simp [sErrs, fe, t1])
                              have hres : Hid (checkTxn t = reckonE op) := by have h2 := hq.out (by rw [h1.out]; exact t1); rw [List.append_nil] at h2; exact (hpe.out.trans h2).trans h1.out
                              have u1 : (reckonE op != 0) = true := by simp [t1]
                              clear t1
                              go_wp2_with (first
                              | (go_at_call 92; refine (ref_ReckonOf _ _ _ _).mono ?_; rintro e w' ⟨rfl, rfl⟩)
                              | (go_at_call 91; refine (ref_CheckOperand _ _ _ _).mono ?_; rintro e w' ⟨rfl, hb⟩; (first | (replace HQ := Bel.step HQ hb) | (replace HQ := Bel.step (Bel.drew HQ) hb) | (replace HQ := Bel.step (Bel.alloc HQ _) hb) | (replace HQ := Bel.step (Bel.alloc (Bel.drew HQ) _) hb) | (replace HQ := Bel.step (Bel.alloc (Bel.alloc HQ _) _) hb)); have HG := sS HQ; have HBn := Bel.step (Bel.alloc HB _) HQ; have HC2 := rk_cells HBn; clear hb))
                              go_ret
                              exact ⟨retI hres.out.symm, Bel.alloc (rk_below HB) _⟩
                          · have hres : Hid (checkTxn t = 0) := by
                              have := hfs.out
                              rw [List.take_of_length_le (by have := ls.out; omega)] at this
                              show checkTxn t = 0
                              rw [hpe.out, this]
                            go_wp2
                            go_ret
                            exact ⟨retI hres.out.symm, rk_below HB⟩

end Go.Proofs.Ytjgmbgfcffnanac
