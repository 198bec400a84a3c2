/- The walks over the small functions of package txn. -/
import Derived.Test.YtjgmbgfcffnanacMem2
namespace Go.Proofs.Ytjgmbgfcffnanac
open Go.RowKit

theorem intInfo : (Try.prog.info? 3).map (fun i => (i.zero, i.size, i.bytes)) = some (some (.int .i64 0), 1, 8) := by kernel_rfl

set_option maxRecDepth 100000 in
set_option maxHeartbeats 1000000 in
theorem txn_Keys (ra ga sa : Option Addr) (nr rc ng gc ns sc : Nat) (t : Txn) (w : World) (h : TxnAt w ra nr ga ng sa ns t) :
    Calls Try.prog 84 #[.agg #[.slice ra nr rc, .slice ga ng gc, .slice sa ns sc]] w fun e w' => ∃ v, e = .returned v ∧ Own 3 1 encI w' w.heap.size v (keysOf t) ∧ Below w.heap.size w w' := by
  obtain ⟨i0, hi0, hz0, hz1, hz2⟩ := info_parts intInfo
  obtain ⟨_, _, ⟨hns, hs⟩, _, _, hbytes⟩ := h
  have hsx := hs.alloc (.cells #[.slice ra nr rc, .slice ga ng gc, .slice sa ns sc] 72)
  have HB := Below.refl (w.alloc (.cells #[.slice ra nr rc, .slice ga ng gc, .slice sa ns sc] 72)).heap.size (w.alloc (.cells #[.slice ra nr rc, .slice ga ng gc, .slice sa ns sc] 72))
  go_enter Try.func84, Try.ntmps84
  go_wp2
  go_loopw [3, 9] (fun v i wr => ∃ (k : Nat) (L : List Int), k ≤ ns ∧ i = .int .i64 k ∧ Hid (L = (keysOf t).take k ∧ L.length = k) ∧ Own 3 1 encI wr (w.heap.size + 1) v L ∧ Below (w.alloc (.cells #[.slice ra nr rc, .slice ga ng gc, .slice sa ns sc] 72)).heap.size (w.alloc (.cells #[.slice ra nr rc, .slice ga ng gc, .slice sa ns sc] 72)) wr) (fun _ i _ => ns - (intOf i).toNat)
  case atStart => exact ⟨0, [], Nat.zero_le _, rfl, ⟨by simp, rfl⟩, Own.nil, HB⟩
  case round =>
    obtain ⟨k, L, hk, rfl, hL, hown, HB⟩ := hrel
    have hBs := HB.size
    simp only [World.size_alloc] at hBs
    by_cases hlt : k < ns
    · have hsr := hsx.below HB
      obtain ⟨⟨key, op, ⟨ak, an⟩, ⟨bk, bn⟩⟩, hx⟩ := get_of_lt hns hlt
      obtain ⟨b, o, rfl, hb, hc⟩ := hsr.at_ hx.out
      have hxk : Hid ((keysOf t)[k]? = some key) := by have := hx.out; show (t.sets.map (·.key))[k]? = some key; rw [List.getElem?_map, this]; rfl
      have c0 := hc 0 _ rfl
      have c1 := hc 1 _ rfl
      have c2 := hc 2 _ rfl
      have c3 := hc 3 _ rfl
      have c4 := hc 4 _ rfl
      have c5 := hc 5 _ rfl
      simp only [Nat.add_zero] at c0
      clear hc
      have hLl : L.length ≤ k := by rw [hL.out.2]; omega
      go_wp2_with (at_builtin; go_loud (refine wpList_append_own _ rfl (.tmp 13) (.tmp 16) 25 rfl (w.heap.size + 1) 3 i0 (.int .i64 0) 1 8 Try.underlying25 hi0 hz0 hz1 hz2 rfl (by decide) _ _ _ rfl ((hown.alloc _).alloc _).out ⟨wr.heap.size + 1, 0, none⟩ 1 1 (encI key) rfl rfl (news_blk (by simp)) (by simp [encI, Value.oneCell']) (by unfold maxLen; omega) (by omega) (by simp only [World.size_alloc]; omega) ?_); intro v' w1 hown1 hgrow1 _; go_loud (replace hown1 := Own.push hown1); go_loud (have HB1 := ((hown.alloc _).alloc _).frame ((HB.alloc (by simp; omega) _).alloc (by simp; omega) _) (by simp) hgrow1))
      go_roundw
      case rel => exact ⟨k + 1, L ++ [key], by omega, by go_num, ⟨by rw [hL.out.1, take_push hxk.out], by rw [List.length_append, hL.out.2]; rfl⟩, hown1, HB1⟩
      case measure => simp [intOf]; omega
    · have hkn : Hid (k = ns) := Nat.le_antisymm hk (Nat.le_of_not_lt hlt)
      go_wp2
      go_ret
      refine ⟨_, rfl, ?_, below_boxed HB⟩
      have : L = keysOf t := by rw [hL.out.1, hkn.out, List.take_of_length_le (by simp [keysOf, hns])]
      rw [this] at hown
      exact hown.base (by omega)

end Go.Proofs.Ytjgmbgfcffnanac
