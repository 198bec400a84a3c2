/- Package seq: the iterator over the batches. -/
import Derived.Test.YtjgmbgfcffnanaaRF
import Derived.Test.YtjgmbgfcffnanaaTy
import Derived.Test.YtjgmbgfcffnanaaGr2
import Derived.RangeFuncBox
import Derived.Shelf.Abstract
import Derived.WalkKit
import Derived.OwnWalkIn
import Derived.TacticsInMore
import Derived.LoopNIn
import Derived.LoopIn
namespace Go.Proofs.Ytjgmbgfcffnanaa
open Go.RowKit Go.Shelf

abbrev Bats := List (List (List Txn))
def cTss (b : List (List Txn)) : List IV := [IV.view 1 cTs b]
abbrev batsV (bs : Bats) : IV := IV.view 1 cTss bs
/- which sites have a batch of this epoch -/
def siteTo (bs : Bats) (e n : Nat) : List (Nat × Nat) := (List.range n).flatMap fun i => if e < (bs[i]?.getD []).length then [(i, e)] else []
def epochTo (bs : Bats) (n : Nat) : List (Nat × Nat) := (List.range n).flatMap fun e => siteTo bs e bs.length
def allB (bs : Bats) : List (Nat × Nat) := epochTo bs 6
theorem siteTo_next (bs : Bats) (e n : Nat) : siteTo bs e (n + 1) = siteTo bs e n ++ if e < (bs[n]?.getD []).length then [(n, e)] else [] := by
  unfold siteTo; rw [List.range_succ, List.flatMap_append]; simp
theorem epochTo_next (bs : Bats) (n : Nat) : epochTo bs (n + 1) = epochTo bs n ++ siteTo bs n bs.length := by
  unfold epochTo; rw [List.range_succ, List.flatMap_append]; simp
theorem siteTo_pre {bs : Bats} {e i n : Nat} (h : i ≤ n) : siteTo bs e i <+: siteTo bs e n := by
  induction n with
  | zero => obtain rfl : i = 0 := by omega
            exact List.prefix_refl _
  | succ n ih =>
    rcases Nat.lt_or_ge i (n + 1) with h1 | h1
    · exact (ih (by omega)).trans (by rw [siteTo_next]; exact List.prefix_append _ _)
    · obtain rfl : i = n + 1 := by omega
      exact List.prefix_refl _
theorem epochTo_pre {bs : Bats} {i n : Nat} (h : i ≤ n) : epochTo bs i <+: epochTo bs n := by
  induction n with
  | zero => obtain rfl : i = 0 := by omega
            exact List.prefix_refl _
  | succ n ih =>
    rcases Nat.lt_or_ge i (n + 1) with h1 | h1
    · exact (ih (by omega)).trans (by rw [epochTo_next]; exact List.prefix_append _ _)
    · obtain rfl : i = n + 1 := by omega
      exact List.prefix_refl _
theorem pre_all {bs : Bats} {e i : Nat} (he : e < 6) (hi : i ≤ bs.length) : epochTo bs e ++ siteTo bs e i <+: allB bs :=
  List.IsPrefix.trans ((List.prefix_append_right_inj _).2 (siteTo_pre hi)) (by rw [← epochTo_next]; exact epochTo_pre (by omega))
def BatAt (bs : Bats) : Type := { p : Nat × Nat // p.1 < bs.length ∧ p.2 < (bs[p.1]?.getD []).length }

theorem Agr.below {μ : Mem} {w w' : World} {n : Nat} (h : Agr μ w) (hb : Below n w w') (hn : w.heap.size ≤ n) : Agr μ w' := fun b cs hb2 => by
  obtain ⟨t, fz, hh⟩ := h b cs hb2
  exact ⟨t, fz, (hb.block b (Nat.lt_of_lt_of_le (Array.getElem?_eq_some_iff.1 hh).1 hn)).trans hh⟩
theorem Agr.cell {μ : Mem} {w : World} (h : Agr μ w) {b o : Nat} {cs : Array Value} {v : Value} (hb : μ b = some cs) (ho : cs[o]? = some v) : w.cell? ⟨b, o, none⟩ = some v := by
  obtain ⟨t, fz, hh⟩ := h b cs hb
  simp only [World.cell?, hh]
  exact ho

set_option maxRecDepth 100000 in
set_option maxHeartbeats 2000000 in
theorem batches1_in (bs : Bats) (hbl : bs.length ≤ 1000) (μ : Mem) (l b0 o0 : Nat) (A : Option Addr) (c bA oA : Nat) (J Jx : List (BatAt bs) → World → Prop)
    (hc0 : ∀ W, Agr μ W → W.cell? ⟨b0, o0, none⟩ = some (.slice A bs.length c)) (hA : bs = [] ∨ A = some ⟨bA, oA, none⟩)
    (hck : ∀ (k : Nat) b, bs[k]? = some b → ∃ Ak ck, ∀ W, Agr μ W → W.cell? ⟨bA, oA + k, none⟩ = some (.slice Ak b.length ck))
    (hY : ∀ (pre : List (BatAt bs)) (x : BatAt bs) (W : World), J pre W → pre.length < (allB bs).length → YieldAt Fence.wide 7 Try.prog l #[.int .i64 (x.1.1 : Int), .int .i64 (x.1.2 : Int)] W fun e W' =>
      (e = .returned (.bool true) ∧ J (pre ++ [x]) W' ∧ (Agr μ W → Agr μ W')) ∨ (e = .returned (.bool false) ∧ Jx (pre ++ [x]) W'))
    (W : World) (ha : Agr μ W) (h0 : J [] W) :
    CallsIn Fence.wide 8 Try.prog 84 #[.func (.yield l) #[] #[], .pointer (some ⟨b0, o0, none⟩)] W fun e W' => (∃ v, e = .returned v) ∧
      ((∃ ys : List (BatAt bs), ys.map (·.1) = allB bs ∧ J ys W') ∨ (∃ pre : List (BatAt bs), pre.map (·.1) <+: allB bs ∧ Jx pre W')) := by
  refine callsIn_of_wp Try.func84 rfl trivial ?_ rfl
  simp only [Try.ntmps84, List.size_toArray, List.length_cons, List.length_nil, Nat.reduceAdd, Nat.reduceSub, Array.replicate_succ, Array.replicate_zero, List.push_toArray, List.append_toArray, List.nil_append, List.cons_append]
  gi_wp2
  gi_loopw [6] (fun e wr => ∃ k : Nat, k ≤ 6 ∧ e = .int .i64 k ∧ ∃ pre : List (BatAt bs), pre.map (·.1) = epochTo bs k ∧ J pre wr ∧ Agr μ wr)
    (fun e _ => 6 - (intOf e).toNat)
  case atStart => exact ⟨0, by omega, rfl, [], rfl, h0, ha⟩
  case round =>
    obtain ⟨k, hk, rfl, pre, hp, hJ, hag⟩ := hrel
    by_cases hlt : k < 6
    · have hcell := hc0 _ hag
      gi_wp2
      obtain ⟨v7, hv7⟩ : ∃ v, v = Value.bool (decide ((k : Int) < 6)) := ⟨_, rfl⟩
      rw [← hv7]
      clear hv7
      gi_loopw [11] (fun i wr => ∃ j : Nat, j ≤ bs.length ∧ i = .int .i64 j ∧ ∃ pre : List (BatAt bs), pre.map (·.1) = epochTo bs k ++ siteTo bs k j ∧ J pre wr ∧ Agr μ wr)
        (fun i _ => bs.length - (intOf i).toNat)
      case atStart => exact ⟨0, by omega, rfl, pre, by rw [hp]; simp [siteTo], hJ, hag⟩
      case round =>
        obtain ⟨j, hj, rfl, pre2, hp2, hJ2, hag2⟩ := hrel
        by_cases hjl : j < bs.length
        · obtain ⟨b, hb⟩ := get_at hjl
          obtain ⟨Ak, ck, hcells⟩ := hck j b hb
          have hcell2 := hcells _ hag2
          obtain rfl := hA.resolve_left (fun e => by rw [e] at hjl; simp at hjl)
          have hgd : (bs[j]?.getD []).length = b.length := by rw [hb]; rfl
          by_cases hkb : k < b.length
          · have hsn : siteTo bs k (j + 1) = siteTo bs k j ++ [(j, k)] := by rw [siteTo_next, hgd, if_pos hkb]
            have hlen : pre2.length < (allB bs).length := by
              have h1 := (pre_all (bs := bs) (e := k) (i := j + 1) hlt (by omega)).length_le
              have h2 := congrArg List.length hp2
              rw [List.length_map] at h2
              rw [hsn, List.length_append, List.length_append, List.length_singleton] at h1
              rw [List.length_append] at h2
              omega
            obtain ⟨fn, tmps, assign, body, hy, hR⟩ := hY pre2 ⟨(j, k), hjl, by rw [hgd]; exact hkb⟩ wr hJ2 hlen
            dsimp only at hy
            gi_wp2
            refine hR.mono ?_
            rintro e W3 (⟨rfl, hJ3, hk3⟩ | ⟨rfl, hJx3⟩)
            · gi_wp2
              go_roundw
              case rel => exact ⟨j + 1, by omega, by simp, _, by rw [List.map_append, hp2, hsn, List.append_assoc]; rfl, hJ3, hk3 hag2⟩
              case measure => simp [intOf]; omega
            · gi_wp2
              refine bodyPost_ret (results_none rfl _ _ _) rfl ?_
              refine ⟨⟨_, rfl⟩, .inr ⟨_, ?_, hJx3⟩⟩
              rw [List.map_append, hp2, List.append_assoc]
              show epochTo bs k ++ (siteTo bs k j ++ [(j, k)]) <+: _
              rw [← hsn]
              exact pre_all hlt (by omega)
          · have hsn : siteTo bs k (j + 1) = siteTo bs k j := by rw [siteTo_next, hgd, if_neg hkb, List.append_nil]
            gi_wp2
            refine ⟨fun _ h => (by cases h), ?_⟩
            gi_wp2
            go_roundw
            case rel => exact ⟨j + 1, by omega, by simp, _, by rw [hp2, hsn], hJ2, hag2⟩
            case measure => simp [intOf]; omega
        · obtain rfl : j = bs.length := by omega
          gi_wp2
          go_roundw
          case rel => exact ⟨k + 1, by omega, by simp, _, by rw [hp2, epochTo_next], hJ2, hag2⟩
          case measure => simp [intOf]; omega
    · obtain rfl : k = 6 := by omega
      gi_wp2
      go_end0
      exact ⟨⟨_, rfl⟩, .inl ⟨_, hp, hJ⟩⟩

theorem batches_iter (bs : Bats) (hbl : bs.length ≤ 1000) : Iter (Cfg.mk Try.prog (ttAt ttl) ttl_ok.ok mixd) 84 [IV.ptr [batsV bs]] (fun x : BatAt bs => #[.int .i64 (x.1.1 : Int), .int .i64 (x.1.2 : Int)]) (allB bs).length (fun xs => xs.map (·.1) = allB bs) (fun pre => pre.map (·.1) <+: allB bs) := by
  refine ⟨⟨_, Try.func84, rfl, by kernel_rfl⟩, fun μ lb w hcaps ha l J Jx W hW hJ hJx hY h0 => ?_⟩
  obtain ⟨p, vs, rfl, ⟨b0, o0, rfl, hcl⟩, rfl⟩ := hcaps
  obtain ⟨cs, v, hb0, ho0, ⟨A, c, rfl, l1, l2, hk⟩, _⟩ := hcl 0 _ rfl
  have haW := ha.below hW (Nat.le_refl _)
  rcases hk with hnil | ⟨bA, oA, rfl, hk⟩
  · exact batches1_in bs hbl μ l b0 o0 A c 0 0 J Jx (fun W hA => hA.cell hb0 ho0) (.inl hnil) (fun k b hb => by rw [hnil] at hb; cases hb) hY W haW h0
  · refine batches1_in bs hbl μ l b0 o0 _ c bA oA J Jx (fun W hA => hA.cell hb0 ho0) (.inr rfl) (fun k b hb => ?_) hY W haW h0
    obtain ⟨cs2, v2, hb2, ho2, ⟨Ak, ck, rfl, _⟩, _⟩ := hk k b hb 0 _ rfl
    exact ⟨Ak, ck, fun W hA => hA.cell hb2 (by simpa using ho2)⟩
set_option maxRecDepth 100000 in
theorem batches_fn (bs : Bats) : Fn (Cfg.mk Try.prog (ttAt ttl) ttl_ok.ok mixd) 57 [batsV bs] (IV.fn 84 [IV.ptr [batsV bs]]) := by
  refine Fn.of_wp _ Try.func57 rfl (by kernel_rfl) Try.ntmps57 rfl ?_
  intro F hD hG
  ((repeat apply WP.seq); apply WP.lreg; refine ALK.n (opn_box (eB rfl) Cs.a rfl) rfl ?_; refine nA rfl rfl ?_; refine ALK.nil ?_; try show WP _ _ _ _ _ _)
  ((repeat apply WP.seq); apply WP.lreg; refine ALK.n (opn_makeFunc (Evs.cons Ev.a Evs.nil)) rfl ?_; refine nA rfl rfl ?_; refine ALK.nil ?_; try show WP _ _ _ _ _ _)
  ((repeat apply WP.seq); refine WP.ret ?_; first | exact RetOk.one Try.results57 ResV.a | exact RetOk.tup Try.results57 rfl ResVs.a)
end Go.Proofs.Ytjgmbgfcffnanaa
