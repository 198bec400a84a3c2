/- The walk over the reference's RunOf. -/
import Derived.Test.YtjgmbgfcffnanacRun2
namespace Go.Proofs.Ytjgmbgfcffnanac
open Go.RowKit

/- the world behind the boxing of RunOf's parameter and of its result -/
def roW (w : World) (ra : Option Addr) (nr rc : Nat) (ga : Option Addr) (ng gc : Nat) (sa : Option Addr) (ns sc : Nat) : World :=
  (w.alloc (.cells #[.slice ra nr rc, .slice ga ng gc, .slice sa ns sc] 72)).alloc (.cells #[.bool false, .slice none 0 0] 68)
section
variable {w wc : World} {ra : Option Addr} {nr rc : Nat} {ga : Option Addr} {ng gc : Nat} {sa : Option Addr} {ns sc : Nat}
theorem roW_eq : (w.alloc (.cells #[.slice ra nr rc, .slice ga ng gc, .slice sa ns sc] 72)).alloc (.cells #[.bool false, .slice none 0 0] 68) = roW w ra nr rc ga ng gc sa ns sc := rfl
theorem roW_size : (roW w ra nr rc ga ng gc sa ns sc).heap.size = w.heap.size + 2 := by simp [roW]
theorem roW_below : Below w.heap.size w (roW w ra nr rc ga ng gc sa ns sc) := Bel.alloc (Bel.alloc (Below.refl _ _) _) _
theorem ro_below (h : Below (roW w ra nr rc ga ng gc sa ns sc).heap.size (roW w ra nr rc ga ng gc sa ns sc) wc) : Below w.heap.size w wc := Bel.step roW_below h
theorem ro_cells (h : Below (roW w ra nr rc ga ng gc sa ns sc).heap.size (roW w ra nr rc ga ng gc sa ns sc) wc) :
    wc.cell? ⟨w.heap.size, 0, none⟩ = some (.slice ra nr rc) ∧ wc.cell? ⟨w.heap.size, 1, none⟩ = some (.slice ga ng gc) ∧ wc.cell? ⟨w.heap.size, 2, none⟩ = some (.slice sa ns sc) ∧
    wc.cell? ⟨w.heap.size + 1, 0, none⟩ = some (.bool false) ∧ wc.cell? ⟨w.heap.size + 1, 1, none⟩ = some (.slice none 0 0) ∧ (∀ o, wc.frozen? ⟨w.heap.size + 1, o, none⟩ = false) ∧
    w.heap.size < wc.heap.size ∧ w.heap.size + 1 < wc.heap.size ∧ w.heap.size ≤ wc.heap.size ∧ (∀ n, w.heap.size < wc.heap.size + n) ∧ (∀ n, w.heap.size + 1 < wc.heap.size + n) := by
  have hs := h.size
  rw [roW_size] at hs
  refine ⟨(h.cell (by rw [roW_size]; simp)).trans ?_, (h.cell (by rw [roW_size]; simp)).trans ?_, (h.cell (by rw [roW_size]; simp)).trans ?_, (h.cell (by rw [roW_size]; simp)).trans ?_, (h.cell (by rw [roW_size]; simp)).trans ?_, fun o => (h.frozen (by rw [roW_size]; simp)).trans ?_, by omega, by omega, by omega, fun n => by omega, fun n => by omega⟩
  all_goals simp [roW, go_sem]
end

set_option maxRecDepth 100000 in
set_option maxHeartbeats 4000000 in
theorem ref_RunOf (ra ga sa : Option Addr) (nr rc ng gc ns sc : Nat) (t : Txn) (xa : Option Addr) (xc : Nat) (xs : List Int) (w : World) (h : TxnAt w ra nr ga ng sa ns t) (hx : Rd 1 encI w xa nr xs) (hok : checkTxn t = 0) :
    Calls Try.prog 43 #[.agg #[.slice ra nr rc, .slice ga ng gc, .slice sa ns sc], .slice xa nr xc] w fun e w' => ∃ v1 v2, e = .returned (.tuple #[.agg #[.bool (runDone t xs), v1], v2]) ∧ Own 3 1 encI w' w.heap.size v1 xs ∧ Own 3 1 encI w' w.heap.size v2 (runSets t xs) ∧ Below w.heap.size w w' := by
  obtain ⟨i0, hi0, hz0, hz1, hz2⟩ := info_parts intInfo
  have hp := Lib.hid (right_parts hok)
  clear hok
  have hr4 : nr ≤ 4 := by have h1 := hp.out.1.1; have h2 := h.1.1; omega
  have hW := ((h.alloc (.cells #[.slice ra nr rc, .slice ga ng gc, .slice sa ns sc] 72)).alloc (.cells #[.bool false, .slice none 0 0] 68))
  have hX := ((hx.alloc (.cells #[.slice ra nr rc, .slice ga ng gc, .slice sa ns sc] 72)).alloc (.cells #[.bool false, .slice none 0 0] 68))
  rw [roW_eq] at hW hX
  go_enter Try.func43, Try.ntmps43
  go_wp2_with (at_builtin; rw [roW_eq]; go_loud (refine wpList_append_rd rfl _ _ _ rfl (w.heap.size + 2) 3 i0 (.int .i64 0) 1 8 Try.underlying25 hi0 hz0 hz1 hz2 rfl (by decide) encI_len oneI _ [] rfl (Own.empty (roW w ra nr rc ga ng gc sa ns sc) (by rw [roW_size]) (by omega)) xa nr xc xs rfl (hX.alloc _) (by simp only [List.length_nil]; unfold maxLen; omega) (by simp only [List.length_nil]; omega) (by simp only [World.size_alloc, roW_size]; omega) ?_); intro v2 w1 hv hg2; have HB1 := (Own.empty (α := Int) (E := 3) (k := 1) (enc := encI) (B := w.heap.size + 2) (b := w.heap.size + 1 + 1) (roW w ra nr rc ga ng gc sa ns sc) (by rw [roW_size]) (by omega)).frame (Bel.alloc (Below.refl _ _) _) (by rw [roW_size]; exact Nat.le_refl _) hg2; rw [List.nil_append] at hv; obtain ⟨va, vc, rfl, hvc⟩ := hv.slice hX.1; have HC := ro_cells HB1)
  have hBg := hW.2.1.below HB1
  have hBs := hW.2.2.1.below HB1
  have hBx := hX.below HB1
  have hH1 : Hid (t.guards.length = ng) := hW.2.1.1
  have hH2 : Hid (t.sets.length = ns) := hW.2.2.1.1
  have hRl : Hid (t.reads.length = nr) := hW.1.1
  have hng2 : ng ≤ 2 := by have h1 := hp.out.1.2.1; have h2 := hH1.out; omega
  have hns := hW.2.2.2.2.2
  have hv3 := hv.base (B' := w.heap.size + 2) (Nat.le_refl _)
  have hw1 : w.heap.size + 1 < w1.heap.size := HC.2.2.2.2.2.2.2.1
  clear hW hX h hx hg2
  have hg0 : Hid (true = (t.guards.take 0).all (gHold xs)) := rfl
  have hT := two_cells (Below.refl (w1.alloc (.cells #[.bool true, .slice va nr vc] 68)).heap.size _)
  go_loopw [7] (fun i wr => ∃ (k : Nat) (D : Bool), k ≤ ng ∧ i = .int .i64 k ∧ Hid (D = (t.guards.take k).all (gHold xs)) ∧ Below w1.heap.size w1 wr ∧ wr.cell? ⟨w1.heap.size, 0, none⟩ = some (.bool D) ∧ wr.cell? ⟨w1.heap.size, 1, none⟩ = some (.slice va nr vc) ∧ (∀ o, wr.frozen? ⟨w1.heap.size, o, none⟩ = false) ∧ w1.heap.size < wr.heap.size) (fun i _ => ng - (intOf i).toNat)
  case atStart => exact ⟨0, true, by omega, rfl, hg0, Bel.alloc (Below.refl _ _) _, hT.1, hT.2.1, hT.2.2.1, hT.2.2.2.1⟩
  case round =>
    clear hT
    obtain ⟨k, D, hk, rfl, hD, HBw, d0, d1, d2, hwr⟩ := hrel
    have HBd := Bel.step HB1 HBw
    clear HC
    have HC := ro_cells HBd
    by_cases hlt : k < ng
    · obtain ⟨b, o, gk, ak, an, bk, bn, rfl, hbx, hx, c0, c1, c2, c3, c4⟩ := get_guard (hBg.below HBw) hlt
      have hge := Lib.hid (hp.out.2.2.2.1 _ (List.mem_of_getElem? hx.out))
      have i1 : (0 : Int) ≤ (k : Int) := by omega
      have i2 : (k : Int) < (ng : Int) := by omega
      have hsS : ∀ W, Below wr.heap.size wr W → Below wr.heap.size wr W ∧ W.cell? ⟨w.heap.size, 1, none⟩ = some (.slice (some ⟨b, o, none⟩) ng gc) ∧ W.cell? ⟨b, o + k * 5, none⟩ = some (.int .i64 gk) ∧ W.cell? ⟨b, o + k * 5 + 1, none⟩ = some (.int .i64 ak) ∧ W.cell? ⟨b, o + k * 5 + 2, none⟩ = some (.int .i64 an) ∧ W.cell? ⟨b, o + k * 5 + 3, none⟩ = some (.int .i64 bk) ∧ W.cell? ⟨b, o + k * 5 + 4, none⟩ = some (.int .i64 bn) ∧ Rd 1 encI W xa nr xs := fun W hW =>
        ⟨hW, (hW.cell (by simp; omega)).trans HC.2.1, (hW.cell hbx).trans c0, (hW.cell hbx).trans c1, (hW.cell hbx).trans c2, (hW.cell hbx).trans c3, (hW.cell hbx).trans c4, hBx.below (Bel.step HBw hW)⟩
      have hsT : ∀ W, Below wr.heap.size wr W ∧ W.cell? ⟨w.heap.size, 1, none⟩ = some (.slice (some ⟨b, o, none⟩) ng gc) ∧ W.cell? ⟨b, o + k * 5, none⟩ = some (.int .i64 gk) ∧ W.cell? ⟨b, o + k * 5 + 1, none⟩ = some (.int .i64 ak) ∧ W.cell? ⟨b, o + k * 5 + 2, none⟩ = some (.int .i64 an) ∧ W.cell? ⟨b, o + k * 5 + 3, none⟩ = some (.int .i64 bk) ∧ W.cell? ⟨b, o + k * 5 + 4, none⟩ = some (.int .i64 bn) ∧ Rd 1 encI W xa nr xs → Rd 1 encI W xa nr xs := fun W hq => hq.2.2.2.2.2.2.2
      have hga : Hid (checkOp ak an nr = 0) := by have h5 := hge.out.2.1; rw [hRl.out] at h5; exact h5
      have hgb : Hid (checkOp bk bn nr = 0) := by have h5 := hge.out.2.2; rw [hRl.out] at h5; exact h5
      have hval : Hid (gHold xs ⟨gk, ⟨ak, an⟩, ⟨bk, bn⟩⟩ = holdsB gk (valueOf ak an xs) (valueOf bk bn xs)) := (rfl : _ = _)
      obtain ⟨G, hG⟩ : ∃ G, G = holdsB gk (valueOf ak an xs) (valueOf bk bn xs) := ⟨_, rfl⟩
      have hnext : Hid ((D && G) = (t.guards.take (k + 1)).all (gHold xs)) := by show _ = _; rw [take_push hx.out, List.all_append, ← hD.out, List.all_cons, hval.out, ← hG]; simp
      clear hval
      go_wp2
      go_region_held3 (fun W => Below wr.heap.size wr W ∧ W.cell? ⟨w.heap.size, 1, none⟩ = some (.slice (some ⟨b, o, none⟩) ng gc) ∧ W.cell? ⟨b, o + k * 5, none⟩ = some (.int .i64 gk) ∧ W.cell? ⟨b, o + k * 5 + 1, none⟩ = some (.int .i64 ak) ∧ W.cell? ⟨b, o + k * 5 + 2, none⟩ = some (.int .i64 an) ∧ W.cell? ⟨b, o + k * 5 + 3, none⟩ = some (.int .i64 bk) ∧ W.cell? ⟨b, o + k * 5 + 4, none⟩ = some (.int .i64 bn) ∧ Rd 1 encI W xa nr xs)
        (first | exact hsS _ HR | exact hsS _ (Below.refl _ _).drew)
        (first
          | (go_at_call_of 103 (Value.agg #[.int .i64 ak, .int .i64 an]); have q3 := hsT _ (by assumption); refine (ref_ValueOf ak an _ _ _ xs _ (by omega) q3 hga.out).mono ?_; rintro e w5 ⟨rfl, hb⟩; have HR := Rg.step (by assumption) hb)
          | (go_at_call_of 103 (Value.agg #[.int .i64 bk, .int .i64 bn]); have q3 := hsT _ (by assumption); refine (ref_ValueOf bk bn _ _ _ xs _ (by omega) q3 hgb.out).mono ?_; rintro e w5 ⟨rfl, hb⟩; have HR := Rg.step (by assumption) hb)
          | (go_at_call 90; refine (ref_HoldsOf _ _ _ _).mono ?_; rintro e w' ⟨rfl, rfl⟩))
      rw [← hG]
      clear hG
      have e0 : w5.cell? ⟨w1.heap.size, 0, none⟩ = some (.bool D) := (HR.cell (by simp; omega)).trans d0
      have e1 : w5.cell? ⟨w1.heap.size, 1, none⟩ = some (.slice va nr vc) := (HR.cell (by simp; omega)).trans d1
      have e2 : ∀ o, w5.frozen? ⟨w1.heap.size, o, none⟩ = false := fun o => (HR.frozen (by simp; omega)).trans (d2 o)
      have e3 : w1.heap.size < w5.heap.size := Nat.lt_of_lt_of_le hwr HR.size
      have HBn := Bel.step HBw HR
      clear HC c0 c1 c2 c3 c4 hsS hsT
      cases D <;> cases G
      all_goals
        go_wp2
        go_roundw
      all_goals first
        | exact ⟨k + 1, _, by omega, by go_num, hnext, HBn.setCell (by simp) _, World.cell?_setCell_same _ _ _ e0, (World.cell?_setCell_other _ _ _ _ (by simp)).trans e1, fun o => (World.frozen?_setCell _ _ _ _).trans (e2 o), by simpa [World.setCell] using e3⟩
        | (simp [intOf]; omega)
    · have hrd : Hid (runDone t xs = D) := by
        have h2 := hD.out
        rw [List.take_of_length_le (by have := hH1.out; omega)] at h2
        exact h2.symm
      cases D with
      | false =>
        go_wp2
        (try simp only [Exit.inBlock, Exit.then])
        have hR := two_stores (x := .bool false) (y := .slice va nr vc) HC.2.2.2.1 HC.2.2.2.2.1
        refine bodyPost_ret (by simp [results, Try.results43, go_sem, hR.1, hR.2]; rfl) rfl ?_
        refine ⟨_, _, by rw [hrd.out], ?_, ?_, ?_⟩
        · exact (((hv3.below HBw).setLow (by simp) _).setLow (by simp) _).base (by omega)
        · have hsn : runSets t xs = [] := by rw [runSets, hrd.out]; rfl
          rw [hsn]; exact Own.nil
        · exact ((ro_below HBd).setCell (by simp) _).setCell (by simp) _
      | true =>
        obtain ⟨wo, hwo⟩ : ∃ wo : World, wo = wr := ⟨_, rfl⟩
        subst hwo
        go_wp2
        go_loopw [10, 11] (fun v i wr => ∃ (j : Nat) (L : List Int), j ≤ ns ∧ i = .int .i64 j ∧ Hid (L = (t.sets.take j).map (sVal xs) ∧ L.length = j) ∧ Own 3 1 encI wr wo.heap.size v L ∧ Below wo.heap.size wo wr) (fun _ i _ => ns - (intOf i).toNat)
        case atStart => exact ⟨0, [], by omega, rfl, ⟨rfl, rfl⟩, Own.nil, Below.refl _ _⟩
        case round =>
          obtain ⟨j, L, hj, rfl, hL, hown, HBs⟩ := hrel
          clear HC
          have HBd2 := Bel.step HBd HBs
          have HBw2 := Bel.step HBw HBs
          have HC := ro_cells HBd2
          have e0 : wr.cell? ⟨w1.heap.size, 0, none⟩ = some (.bool true) := (HBs.cell (by simp; omega)).trans d0
          have e1 : wr.cell? ⟨w1.heap.size, 1, none⟩ = some (.slice va nr vc) := (HBs.cell (by simp; omega)).trans d1
          by_cases hjt : j < ns
          · obtain ⟨b, o, key, op, ak, an, bk, bn, rfl, hbx, hx, c0, c1, c2, c3, c4, c5⟩ := get_set (hBs.below HBw2) hjt
            have hge := Lib.hid (hp.out.2.2.2.2 _ (List.mem_of_getElem? hx.out))
            have i1 : (0 : Int) ≤ (j : Int) := by omega
            have i2 : (j : Int) < (ns : Int) := by omega
            have hsS : ∀ W, Below wr.heap.size wr W → Below wr.heap.size wr W ∧ W.cell? ⟨w.heap.size, 2, none⟩ = some (.slice (some ⟨b, o, none⟩) ns sc) ∧ W.cell? ⟨b, o + j * 6 + 1, none⟩ = some (.int .i64 op) ∧ W.cell? ⟨b, o + j * 6 + 2, none⟩ = some (.int .i64 ak) ∧ W.cell? ⟨b, o + j * 6 + 3, none⟩ = some (.int .i64 an) ∧ W.cell? ⟨b, o + j * 6 + 4, none⟩ = some (.int .i64 bk) ∧ W.cell? ⟨b, o + j * 6 + 5, none⟩ = some (.int .i64 bn) ∧ Rd 1 encI W xa nr xs := fun W hW =>
              ⟨hW, (hW.cell (by simp; omega)).trans HC.2.2.1, (hW.cell hbx).trans c1, (hW.cell hbx).trans c2, (hW.cell hbx).trans c3, (hW.cell hbx).trans c4, (hW.cell hbx).trans c5, hBx.below (Bel.step HBw2 hW)⟩
            have hsT : ∀ W, Below wr.heap.size wr W ∧ W.cell? ⟨w.heap.size, 2, none⟩ = some (.slice (some ⟨b, o, none⟩) ns sc) ∧ W.cell? ⟨b, o + j * 6 + 1, none⟩ = some (.int .i64 op) ∧ W.cell? ⟨b, o + j * 6 + 2, none⟩ = some (.int .i64 ak) ∧ W.cell? ⟨b, o + j * 6 + 3, none⟩ = some (.int .i64 an) ∧ W.cell? ⟨b, o + j * 6 + 4, none⟩ = some (.int .i64 bk) ∧ W.cell? ⟨b, o + j * 6 + 5, none⟩ = some (.int .i64 bn) ∧ Rd 1 encI W xa nr xs → Rd 1 encI W xa nr xs := fun W hq => hq.2.2.2.2.2.2.2
            have hga : Hid (checkOp ak an nr = 0) := by have h5 := hge.out.2.1; rw [hRl.out] at h5; exact h5
            have hgb : Hid (checkOp bk bn nr = 0) := by have h5 := hge.out.2.2; rw [hRl.out] at h5; exact h5
            have hval : Hid (sVal xs ⟨key, op, ⟨ak, an⟩, ⟨bk, bn⟩⟩ = reckonN op (valueOf ak an xs) (valueOf bk bn xs)) := (rfl : _ = _)
            have hLl : L.length ≤ j := by rw [hL.out.2]; omega
            have hj48 : ns ≤ 3 := by have h6 := hp.out.1.2.2.2; have h7 := hH2.out; omega
            go_wp2
            go_region_held3 (fun W => Below wr.heap.size wr W ∧ W.cell? ⟨w.heap.size, 2, none⟩ = some (.slice (some ⟨b, o, none⟩) ns sc) ∧ W.cell? ⟨b, o + j * 6 + 1, none⟩ = some (.int .i64 op) ∧ W.cell? ⟨b, o + j * 6 + 2, none⟩ = some (.int .i64 ak) ∧ W.cell? ⟨b, o + j * 6 + 3, none⟩ = some (.int .i64 an) ∧ W.cell? ⟨b, o + j * 6 + 4, none⟩ = some (.int .i64 bk) ∧ W.cell? ⟨b, o + j * 6 + 5, none⟩ = some (.int .i64 bn) ∧ Rd 1 encI W xa nr xs)
              (first | exact hsS _ HR | exact hsS _ (Below.refl _ _).drew)
              (first
                | (go_at_call_of 103 (Value.agg #[.int .i64 ak, .int .i64 an]); have q3 := hsT _ (by assumption); refine (ref_ValueOf ak an _ _ _ xs _ (by omega) q3 hga.out).mono ?_; rintro e w5 ⟨rfl, hb⟩; have HR := Rg.step (by assumption) hb)
                | (go_at_call_of 103 (Value.agg #[.int .i64 bk, .int .i64 bn]); have q3 := hsT _ (by assumption); refine (ref_ValueOf bk bn _ _ _ xs _ (by omega) q3 hgb.out).mono ?_; rintro e w5 ⟨rfl, hb⟩; have HR := Rg.step (by assumption) hb)
                | (go_at_call 92; refine (ref_ReckonOf _ _ _ _).mono ?_; rintro e w' ⟨rfl, rfl⟩))
            have hown5 := hown.below HR
            have HB5 := Bel.step HBs HR
            go_wp2_with (at_builtin; go_loud (refine wpList_append_own _ rfl (.tmp 94) (.tmp 96) 25 rfl wo.heap.size 3 i0 (.int .i64 0) 1 8 Try.underlying25 hi0 hz0 hz1 hz2 rfl (by decide) _ _ _ rfl (hown5.alloc _).out ⟨w5.heap.size, 0, none⟩ 1 1 (encI (reckonN op (valueOf ak an xs) (valueOf bk bn xs))) rfl rfl (news_blk rfl) (by simp [encI, Value.oneCell']) (by unfold maxLen; omega) (by omega) (by have h8 := HB5.size; simp only [World.size_alloc] at h8 ⊢; omega) ?_); intro v' w6 hown1 hgrow1 _; replace hown1 := Own.push hown1; have HB6 := Own.frame (hown5.alloc _) (Bel.alloc HB5 _) (Nat.le_refl _) hgrow1)
            go_roundw
            case rel => exact ⟨j + 1, L ++ [reckonN op (valueOf ak an xs) (valueOf bk bn xs)], by omega, by go_num, ⟨by rw [hL.out.1, take_push hx.out, List.map_append, List.map_cons, List.map_nil, hval.out], by rw [List.length_append, hL.out.2]; rfl⟩, hown1, HB6⟩
            case measure => simp [intOf]; omega
          · have hkn : Hid (j = ns) := Nat.le_antisymm hj (Nat.le_of_not_lt hjt)
            go_wp2
            (try simp only [Exit.inBlock, Exit.then])
            have hR := two_stores (x := .bool true) (y := .slice va nr vc) HC.2.2.2.1 HC.2.2.2.2.1
            refine bodyPost_ret (by simp [results, Try.results43, go_sem, hR.1, hR.2]; rfl) rfl ?_
            have hls : L = runSets t xs := by rw [runSets, if_pos hrd.out, hL.out.1, hkn.out, List.take_of_length_le (by rw [hH2.out]; omega)]
            rw [hls] at hown
            refine ⟨_, _, by rw [hrd.out], ?_, ?_, ?_⟩
            · exact (((hv3.below HBw2).setLow (by simp) _).setLow (by simp) _).base (by omega)
            · exact ((hown.setLow (by simp; omega) _).setLow (by simp; omega) _).base (by omega)
            · exact ((ro_below HBd2).setCell (by simp) _).setCell (by simp) _
end Go.Proofs.Ytjgmbgfcffnanac
