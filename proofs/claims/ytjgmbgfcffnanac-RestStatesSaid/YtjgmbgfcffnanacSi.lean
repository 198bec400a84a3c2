/- Package steps: the iterator over the steps that may be; Steps and Can. -/
import Derived.Test.YtjgmbgfcffnanacSpD
import Derived.Test.YtjgmbgfcffnanacSs6
import Derived.Test.YtjgmbgfcffnanacRf1
import Derived.RangeFuncBox
import Derived.Shelf.Abstract
import Derived.WalkKit
import Derived.OwnWalkIn
import Derived.TacticsInMore
import Derived.LoopNIn
import Derived.LoopIn
namespace Go.Proofs.Ytjgmbgfcffnanac
open Go.RowKit Go.Shelf

theorem Agr.belowM {μ : Mem} {w w' : World} {n : Nat} (h : Agr μ w) (hb : Below n w w') (hn : w.heap.size ≤ n) : Agr μ w' := fun b cs hb2 => by
  obtain ⟨t, fz, hh⟩ := h b cs hb2
  exact ⟨t, fz, (hb.block b (Nat.lt_of_lt_of_le (Array.getElem?_eq_some_iff.1 hh).1 hn)).trans hh⟩
theorem Agr.cellM {μ : Mem} {w : World} (h : Agr μ w) {b o : Nat} {cs : Array Value} {v : Value} (hb : μ b = some cs) (ho : cs[o]? = some v) : w.cell? ⟨b, o, none⟩ = some v := by
  obtain ⟨t, fz, hh⟩ := h b cs hb
  simp only [World.cell?, hh]
  exact ho
def CanAt (p : Plan) (s : StT) : Type := { x : StepT // x ∈ canL p s }
def stpVal (x : StepT) : Value := .agg #[.int .i64 x.kind, .int .i64 x.txn, .int .i64 x.shard]
theorem abide {B : Nat} {β : Type} {J : β → World → Prop} (h : AbidesFrom B J) {s : β} {w w' : World} (hj : J s w) (hb : Below w.heap.size w w') : J s w' :=
  h s w w' none hj ⟨hb.os, hb.tape, hb.output, hb.size, fun k hk _ => hb.block k hk⟩ (fun r e => by cases e)

theorem run_two0 (w : World) : (Instr.index 188 (.agg #[.int .i64 1, .int .i64 2]) (.int .i64 0)).run Try.prog w = .ok (.int .i64 1) w := by
  obtain ⟨i0, hi0, _, _, _⟩ := info_parts intInfo
  simp [Instr.index, asIntOf, run_underlying Try.underlying188, sizeOf, typeInfo, go_sem, hi0]
theorem run_two1 (w : World) : (Instr.index 188 (.agg #[.int .i64 1, .int .i64 2]) (.int .i64 1)).run Try.prog w = .ok (.int .i64 2) w := by
  obtain ⟨i0, hi0, _, hs, _⟩ := info_parts intInfo
  simp [Instr.index, asIntOf, run_underlying Try.underlying188, sizeOf, typeInfo, go_sem, hi0, hs]
set_option maxRecDepth 100000 in
set_option maxHeartbeats 4000000 in
theorem can_in (p : Plan) (s : StT) (v : Valid p s) (μ : Mem) (B l bH oH bP oP : Nat) (A : Option Addr) (c : Nat) (J : List (CanAt p s) → World → Prop) (hJ : AbidesFrom B J)
    (hh : ∀ W, Agr μ W → W.cell? ⟨bH, oH, none⟩ = some (.pointer (some ⟨bP, oP, none⟩)))
    (hp0 : ∀ W, Agr μ W → W.cell? ⟨bP, oP, none⟩ = some (.int .i64 (mS p : Int)))
    (hp1 : ∀ W, Agr μ W → W.cell? ⟨bP, oP + 1, none⟩ = some (.slice A (nT p) c))
    (hmay : ∀ W, Agr μ W → ∀ (kind : Int) (n k : Nat), n < nT p → k < mS p → Calls Try.prog 61 #[.pointer (some ⟨bH, oH, none⟩), .agg #[.int .i64 kind, .int .i64 (n : Int), .int .i64 (k : Int)]] W fun e W' => e = .returned (.bool (mayB p s kind n k)) ∧ Below W.heap.size W W')
    (hY : ∀ (pre : List (CanAt p s)) (x : CanAt p s) (W : World), J pre W → pre.length < 1000 → YieldAt Fence.wide 7 Try.prog l #[stpVal x.1] W fun e W' => e = .returned (.bool true) ∧ J (pre ++ [x]) W' ∧ (Agr μ W → Agr μ W'))
    (W : World) (ha : Agr μ W) (h0 : J [] W) :
    CallsIn Fence.wide 8 Try.prog 113 #[.pointer (some ⟨bH, oH, none⟩), .func (.yield l) #[] #[]] W fun e W' => (∃ v, e = .returned v) ∧ ∃ xs : List (CanAt p s), xs.map (·.1) = canL p s ∧ J xs W' := by
  obtain ⟨hm, hm1, hm4, hn8, hall⟩ := plan_m v.plan
  have hmn : nT p * mS p ≤ 8 * 4 := Nat.mul_le_mul hn8 hm4
  refine callsIn_of_wp Try.func113 rfl trivial ?_ rfl
  simp only [Try.ntmps113, List.size_toArray, List.length_cons, List.length_nil, Nat.reduceAdd, Nat.reduceSub, Array.replicate_succ, Array.replicate_zero, List.push_toArray, List.append_toArray, List.nil_append, List.cons_append]
  gi_wp2
  gi_loopw [10] (fun e wr => ∃ k : Nat, k ≤ 2 ∧ e = .int .i64 k ∧ ∃ pre : List (CanAt p s), pre.map (·.1) = canTo p s (k + 1) ∧ J pre wr ∧ Agr μ wr)
    (fun e _ => 2 - (intOf e).toNat)
  case atStart => exact ⟨0, by omega, rfl, [], rfl, h0, ha⟩
  case round =>
    obtain ⟨k, hk, rfl, pre, hp, hJ1, hag⟩ := hrel
    by_cases hlt : k < 2
    · obtain ⟨c1, hc1⟩ : ∃ c1, c1 = canTo p s (k + 1) := ⟨_, rfl⟩
      obtain ⟨c2, hc2⟩ : ∃ c2, c2 = canTo p s (k + 2) := ⟨_, rfl⟩
      obtain ⟨kd, hkd⟩ : ∃ kd : Int, kd = (k : Int) + 1 := ⟨_, rfl⟩
      have hcn : c2 = c1 ++ canKind p s kd (nT p) := by
        rw [hc1, hc2, hkd]
        have := canTo_next (p := p) (s := s) (c := k + 1) (by omega) (by omega)
        rw [this]; push_cast; rfl
      have hcl : c1.length ≤ 64 := by rw [hc1]; exact canTo_len hm4 hn8 _
      have hcA : ∀ x, x ∈ c1 ++ canKind p s kd (nT p) → x ∈ canL p s := fun x hx => by
        rw [← hcn, hc2] at hx
        have : k = 0 ∨ k = 1 := by omega
        rcases this with rfl | rfl
        · exact List.mem_append_left _ hx
        · exact hx
      rw [← hc1] at hp
      have hx1 := hh _ hag
      have hx2 := hp1 _ hag
      have hx3 := hp0 _ hag
      have hk01 : k = 0 ∨ k = 1 := by omega
      clear hc1
      rcases hk01 with rfl | rfl
      · simp only [Int.natCast_zero, Int.zero_add] at hkd
        have hidx := run_two0
        gi_wp2
        gi_loopw [21] (fun e wr => ∃ n : Nat, n ≤ nT p ∧ e = .int .i64 n ∧ ∃ pre : List (CanAt p s), pre.map (·.1) = c1 ++ canKind p s kd n ∧ J pre wr ∧ Agr μ wr)
          (fun e _ => nT p - (intOf e).toNat)
        case atStart => exact ⟨0, by omega, rfl, pre, by rw [hp]; simp [canKind], hJ1, hag⟩
        case round =>
          obtain ⟨n, hn, rfl, pre2, hp2, hJ2, hag2⟩ := hrel
          by_cases hnl : n < nT p
          · have hx1 := hh _ hag2
            have hx3 := hp0 _ hag2
            gi_wp2
            gi_loopw [31] (fun e wr => ∃ j : Nat, j ≤ mS p ∧ e = .int .i64 j ∧ ∃ pre : List (CanAt p s), pre.map (·.1) = c1 ++ canKind p s kd n ++ canRow p s kd n j ∧ J pre wr ∧ Agr μ wr)
              (fun e _ => mS p - (intOf e).toNat)
            case atStart => exact ⟨0, by omega, rfl, pre2, by rw [hp2]; simp [canRow], hJ2, hag2⟩
            case round =>
              obtain ⟨j, hj, rfl, pre3, hp3, hJ3, hag3⟩ := hrel
              by_cases hjl : j < mS p
              · gi_wp2
                have hagA : Agr μ (wr.alloc (.cells #[.int .i64 1, .int .i64 (n : Int), .int .i64 (j : Int)] 40)) := hag3.belowM (Bel.alloc (Below.refl wr.heap.size wr) _) (Nat.le_refl _)
                refine ⟨trivial, callsIn_wide.2 ((hmay _ hagA 1 n j hnl hjl).mono ?_)⟩
                rintro e w2 ⟨rfl, hb⟩
                have hB : Below wr.heap.size wr w2 := Bel.step (Bel.alloc (Below.refl _ _) _) hb
                have hJw := abide hJ hJ3 hB
                have hagw : Agr μ w2 := hag3.belowM hB (Nat.le_refl _)
                have d0 : w2.cell? ⟨wr.heap.size, 0, none⟩ = some (.int .i64 1) := (hb.cell (p := ⟨wr.heap.size, 0, none⟩) (by simp)).trans (by simp [World.cell?_alloc_new])
                have d1 : w2.cell? ⟨wr.heap.size, 1, none⟩ = some (.int .i64 (n : Int)) := (hb.cell (p := ⟨wr.heap.size, 1, none⟩) (by simp)).trans (by simp [World.cell?_alloc_new])
                have d2 : w2.cell? ⟨wr.heap.size, 2, none⟩ = some (.int .i64 (j : Int)) := (hb.cell (p := ⟨wr.heap.size, 2, none⟩) (by simp)).trans (by simp [World.cell?_alloc_new])
                have hrn := canRow_next p s kd n j
                rw [hkd] at hrn
                clear hb hB
                cases hmb : mayB p s 1 n j with
                | true =>
                  rw [hmb, if_pos rfl] at hrn
                  have hmem : (⟨1, n, j⟩ : StepT) ∈ canL p s := mem_canL.2 ⟨n, j, .inl rfl, rfl, hnl, hjl, hmb⟩
                  have hl3 : pre3.length < 1000 := by
                    have h1 := congrArg List.length hp3
                    rw [List.length_map, List.length_append, List.length_append] at h1
                    have h2 := canKind_len p s kd n
                    have h3 := canRow_len p s kd n j
                    have h4 : n * mS p ≤ nT p * mS p := Nat.mul_le_mul_right _ hn
                    omega
                  obtain ⟨fn, tmps, assign, body, hy, hR⟩ := hY pre3 ⟨⟨1, n, j⟩, hmem⟩ w2 hJw hl3
                  simp only [stpVal] at hy
                  gi_wp2
                  refine hR.mono ?_
                  rintro e W3 ⟨rfl, hJ4, hk3⟩
                  gi_wp2
                  go_roundw
                  case rel =>
                    (repeat apply Exists.intro)
                    refine ⟨?_, rfl⟩
                    exact ⟨j + 1, by omega, by simp, _, by rw [List.map_append, hp3, hkd, hrn, List.append_assoc]; rfl, hJ4, hk3 hagw⟩
                  case measure => simp [intOf]; omega
                | false =>
                  rw [hmb, if_neg (by simp), List.append_nil] at hrn
                  gi_wp2
                  refine ⟨fun _ h => (by cases h), ?_⟩
                  gi_wp2
                  go_roundw
                  case rel =>
                    (repeat apply Exists.intro)
                    refine ⟨?_, rfl⟩
                    exact ⟨j + 1, by omega, by simp, _, by rw [hp3, hkd, hrn], hJw, hagw⟩
                  case measure => simp [intOf]; omega
              · obtain rfl : j = mS p := by omega
                gi_wp2
                go_roundw
                case rel => exact ⟨n + 1, by omega, by simp, _, by rw [hp3, canKind_next, List.append_assoc], hJ3, hag3⟩
                case measure => simp [intOf]; omega
          · obtain rfl : n = nT p := by omega
            gi_wp2
            go_roundw
            case rel => exact ⟨1, by omega, by simp, _, by rw [hp2, ← hcn, hc2], hJ2, hag2⟩
            case measure => simp [intOf]
      · replace hkd : kd = 2 := by rw [hkd]; rfl
        have hidx := run_two1
        gi_wp2
        gi_loopw [21] (fun e wr => ∃ n : Nat, n ≤ nT p ∧ e = .int .i64 n ∧ ∃ pre : List (CanAt p s), pre.map (·.1) = c1 ++ canKind p s kd n ∧ J pre wr ∧ Agr μ wr)
          (fun e _ => nT p - (intOf e).toNat)
        case atStart => exact ⟨0, by omega, rfl, pre, by rw [hp]; simp [canKind], hJ1, hag⟩
        case round =>
          obtain ⟨n, hn, rfl, pre2, hp2, hJ2, hag2⟩ := hrel
          by_cases hnl : n < nT p
          · have hx1 := hh _ hag2
            have hx3 := hp0 _ hag2
            gi_wp2
            gi_loopw [31] (fun e wr => ∃ j : Nat, j ≤ mS p ∧ e = .int .i64 j ∧ ∃ pre : List (CanAt p s), pre.map (·.1) = c1 ++ canKind p s kd n ++ canRow p s kd n j ∧ J pre wr ∧ Agr μ wr)
              (fun e _ => mS p - (intOf e).toNat)
            case atStart => exact ⟨0, by omega, rfl, pre2, by rw [hp2]; simp [canRow], hJ2, hag2⟩
            case round =>
              obtain ⟨j, hj, rfl, pre3, hp3, hJ3, hag3⟩ := hrel
              by_cases hjl : j < mS p
              · gi_wp2
                have hagA : Agr μ (wr.alloc (.cells #[.int .i64 2, .int .i64 (n : Int), .int .i64 (j : Int)] 40)) := hag3.belowM (Bel.alloc (Below.refl wr.heap.size wr) _) (Nat.le_refl _)
                refine ⟨trivial, callsIn_wide.2 ((hmay _ hagA 2 n j hnl hjl).mono ?_)⟩
                rintro e w2 ⟨rfl, hb⟩
                have hB : Below wr.heap.size wr w2 := Bel.step (Bel.alloc (Below.refl _ _) _) hb
                have hJw := abide hJ hJ3 hB
                have hagw : Agr μ w2 := hag3.belowM hB (Nat.le_refl _)
                have d0 : w2.cell? ⟨wr.heap.size, 0, none⟩ = some (.int .i64 2) := (hb.cell (p := ⟨wr.heap.size, 0, none⟩) (by simp)).trans (by simp [World.cell?_alloc_new])
                have d1 : w2.cell? ⟨wr.heap.size, 1, none⟩ = some (.int .i64 (n : Int)) := (hb.cell (p := ⟨wr.heap.size, 1, none⟩) (by simp)).trans (by simp [World.cell?_alloc_new])
                have d2 : w2.cell? ⟨wr.heap.size, 2, none⟩ = some (.int .i64 (j : Int)) := (hb.cell (p := ⟨wr.heap.size, 2, none⟩) (by simp)).trans (by simp [World.cell?_alloc_new])
                have hrn := canRow_next p s kd n j
                rw [hkd] at hrn
                clear hb hB
                cases hmb : mayB p s 2 n j with
                | true =>
                  rw [hmb, if_pos rfl] at hrn
                  have hmem : (⟨2, n, j⟩ : StepT) ∈ canL p s := mem_canL.2 ⟨n, j, .inr rfl, rfl, hnl, hjl, hmb⟩
                  have hl3 : pre3.length < 1000 := by
                    have h1 := congrArg List.length hp3
                    rw [List.length_map, List.length_append, List.length_append] at h1
                    have h2 := canKind_len p s kd n
                    have h3 := canRow_len p s kd n j
                    have h4 : n * mS p ≤ nT p * mS p := Nat.mul_le_mul_right _ hn
                    omega
                  obtain ⟨fn, tmps, assign, body, hy, hR⟩ := hY pre3 ⟨⟨2, n, j⟩, hmem⟩ w2 hJw hl3
                  simp only [stpVal] at hy
                  gi_wp2
                  refine hR.mono ?_
                  rintro e W3 ⟨rfl, hJ4, hk3⟩
                  gi_wp2
                  go_roundw
                  case rel =>
                    (repeat apply Exists.intro)
                    refine ⟨?_, rfl⟩
                    exact ⟨j + 1, by omega, by simp, _, by rw [List.map_append, hp3, hkd, hrn, List.append_assoc]; rfl, hJ4, hk3 hagw⟩
                  case measure => simp [intOf]; omega
                | false =>
                  rw [hmb, if_neg (by simp), List.append_nil] at hrn
                  gi_wp2
                  refine ⟨fun _ h => (by cases h), ?_⟩
                  gi_wp2
                  go_roundw
                  case rel =>
                    (repeat apply Exists.intro)
                    refine ⟨?_, rfl⟩
                    exact ⟨j + 1, by omega, by simp, _, by rw [hp3, hkd, hrn], hJw, hagw⟩
                  case measure => simp [intOf]; omega
              · obtain rfl : j = mS p := by omega
                gi_wp2
                go_roundw
                case rel => exact ⟨n + 1, by omega, by simp, _, by rw [hp3, canKind_next, List.append_assoc], hJ3, hag3⟩
                case measure => simp [intOf]; omega
          · obtain rfl : n = nT p := by omega
            gi_wp2
            go_roundw
            case rel => exact ⟨2, by omega, by simp, _, by rw [hp2, ← hcn, hc2], hJ2, hag2⟩
            case measure => simp [intOf]
    · obtain rfl : k = 2 := by omega
      gi_wp2
      go_end0
      exact ⟨⟨_, rfl⟩, _, hp, hJ1⟩

theorem can_iter (p : Plan) (s : StT) (v : Valid p s) (hB : TxsB p.txns) : IterM (Cfg.mk Try.prog (ttAt ttl) ttl_ok.ok mixd) 113 [hallV p s] (fun x : CanAt p s => stpVal x.1) 1000 (fun xs => xs.map (·.1) = canL p s) := by
  obtain ⟨hm, hm1, hm4, hn8, hall⟩ := plan_m v.plan
  refine ⟨⟨_, Try.func113, rfl, by kernel_rfl⟩, fun μ vs w hvs ha l J W hW hJ hY h0 => ?_⟩
  have haW := ha.belowM hW (Nat.le_refl _)
  have hall0 := hvs
  obtain ⟨u, vs', rfl, hu, h1⟩ := hvs
  have h1 : vs' = [] := h1
  subst h1
  obtain ⟨bH, oH, rfl, hcl⟩ := hu
  obtain ⟨cs, u0, k1, k2, k3, _⟩ := hcl 0 _ rfl
  obtain ⟨bP, oP, rfl, hpl⟩ := k3
  obtain ⟨cs0, u1, k4, k5, k6, _⟩ := hpl 0 _ rfl
  obtain ⟨cs1, u2, k7, k8, k9, _⟩ := hpl 1 _ rfl
  obtain ⟨A, c, rfl, _, _, _⟩ := k9
  have k6 : u1 = .int .i64 p.shards := k6
  subst k6
  refine can_in p s v μ W.heap.size l bH oH bP oP A c J hJ (fun W hA => hA.cellM k1 k2) (fun W hA => by rw [← hm]; exact hA.cellM k4 k5) (fun W hA => hA.cellM k7 k8) (fun W hA kind n k hn hk => ?_) hY W haW h0
  refine ((may_fn p s kind n k v.plan hB hn hk).2 μ W [.pointer (some ⟨bH, oH, none⟩), .agg #[.int .i64 kind, .int .i64 (n : Int), .int .i64 (k : Int)]] ⟨_, _, rfl, ⟨bH, oH, rfl, hcl⟩, _, _, rfl, ⟨[.int .i64 kind, .int .i64 (n : Int), .int .i64 (k : Int)], rfl, ⟨_, _, rfl, rfl, _, _, rfl, rfl, _, _, rfl, rfl, rfl⟩, ?_⟩, rfl⟩ hA).mono ?_
  · intro u hu
    simp only [List.mem_cons, List.not_mem_nil, or_false] at hu
    rcases hu with rfl | rfl | rfl <;> rfl
  · rintro e W' ⟨z, μ', rfl, hz, hs⟩
    have hz : z = .bool (mayB p s kind n k) := hz
    rw [hz]
    exact ⟨rfl, hs.below⟩

section
variable {C : Cfg} {σ : Env} {d : Option Tmp} {ty : TypeId} {pos : String} {after : Array Edge} {gu : Option (Nat × Bool)}
theorem opn_makeFuncM {f : FuncId} {first : List Go.Operand} {l : List IV} (hx : Evs σ first l) : OpN C ⟨d, .makeFunc (.func f) first.toArray #[], ty, pos, after, gu⟩ σ (.im (IV.fnM f l)) := OpN.pure fun ρ μ a w hl ha => by
  have h := hx.at hl (fun x hx => by simp [Op.operands, hx])
  exact ⟨.func (.func f) (first.map a.eval).toArray #[], by simp [execOp, Instr.makeFunc], R_im.2 ⟨_, rfl, h⟩⟩
end
theorem stp_ile (x : StepT) : ILe (IV.val (stpVal x)) (IV.agg (cStp x)) := fun μ v hv => by
  have hv : v = stpVal x := hv
  subst hv
  refine ⟨[.int .i64 x.kind, .int .i64 x.txn, .int .i64 x.shard], rfl, ⟨_, _, rfl, rfl, _, _, rfl, rfl, _, _, rfl, rfl, rfl⟩, ?_⟩
  intro u hu
  simp only [List.mem_cons, List.not_mem_nil, or_false] at hu
  rcases hu with rfl | rfl | rfl <;> rfl
set_option maxRecDepth 100000 in
set_option maxHeartbeats 2000000 in
theorem AppendSeq_row (p : Plan) (s : StT) (v : Valid p s) (hB : TxsB p.txns) : FnRow (Cfg.mk Try.prog (ttAt ttl) ttl_ok.ok mixd) 137 [IV.val (.slice none 0 0), IV.fnM 113 [hallV p s]] 40 3 cStp (canL p s) := by
  obtain ⟨hm, hm1, hm4, hn8, hall⟩ := plan_m v.plan
  refine FnRow.of_raw _ (fun _ => rfl) Try.func137 rfl (by kernel_rfl) Try.ntmps137 rfl ?_
  intro F hD hro hG
  refine RawP.seq hD hro ?_
  ((repeat apply WP.seq); apply WP.lreg; refine ALK.a (opa_box (eB rfl) (cs_val rfl)) rfl ?_; refine nA rfl rfl ?_; refine ALK.nil ?_; try show WP _ _ _ _ _ _)
  refine RawP.seq2 hD hro ?_
  ((repeat apply WP.seq); apply WP.lreg; refine nM rfl rfl ?_; refine ALK.nil ?_; try show WP _ _ _ _ _ _)
  refine Raw.range1 (α := CanAt p s) (σ := [(2, .off 0 0), (6, .im (IV.fnM 113 [hallV p s]))])
    (fun xs => ([(0, .blk 36 [.row 1 xs.length]), (1, .row 40 3 cStp (xs.map (·.1)))], 2)) (fun _ => rfl) hD hro
    (Shift.trans (Shift.row0In 0 0 40 3 cStp (fun _ => rfl) rfl rfl rfl) (Shift.sub [(0, 0), (1, 1)] rfl SubE.a SubH.a)) rfl (can_iter p s v hB) rfl rfl ?_ ?_
  · rintro F' hD' ts pre x hlen
    show WP _ _ _ _ _ ⟨[(7, .im (IV.val (stpVal x.1))), (2, .is (ts.getD 2 undef) (.off 0 0)), (6, .is (ts.getD 6 undef) (.im (IV.fnM 113 [hallV p s])))], [(0, .blk 36 [.row 1 pre.length]), (1, .row 40 3 cStp (pre.map (·.1)))], 2⟩
    refine WP.shift (Shift.sub (σ' := [(7, .im (IV.agg (cStp x.1))), (2, .is (ts.getD 2 undef) (.off 0 0)), (6, .is (ts.getD 6 undef) (.im (IV.fnM 113 [hallV p s])))]) (H' := [(0, .blk 36 [.row 1 pre.length]), (1, .row 40 3 cStp (pre.map (·.1)))]) (fr' := 2) [(0, 0), (1, 1)] rfl (SubE.cons rfl (SLe.im (stp_ile x.1)) SubE.a) SubH.a) ?_
    ((repeat apply WP.seq); apply WP.lreg; refine ALK.a (opa_alloc rfl rfl) rfl ?_; (first | refine ALK.e (ope_store rfl (eB rfl) (eB rfl) Cs.a rfl rfl rfl) rfl rfl ?_ | refine ALK.e (ope_storeRow rfl rfl (eB rfl) (eB rfl) (oc_val rfl) rfl rfl (by assumption)) rfl rfl ?_); refine ALK.nil ?_; try show WP _ _ _ _ _ _)
    refine ⟨rfl, rfl, fun F2 hD2 => ?_⟩
    have hl : (pre.map (·.1)).length = pre.length := List.length_map ..
    have hsn : (pre ++ [x]).map (fun x => x.1) = pre.map (·.1) ++ [x.1] := by rw [List.map_append]; rfl
    ((repeat apply WP.seq); apply WP.block)
    ((repeat apply WP.seq); apply WP.lreg; refine ALK.r (opr_load rfl (Ev.is rfl) rfl rfl) rfl ?_; (first | refine ALK.n (opn_load rfl (eB rfl) rfl) rfl ?_ | refine ALK.r OpR.ld rfl ?_); refine ALK.n (opn_slit rfl rfl rfl rfl rfl rfl (Pc rfl (eB rfl) Cs.a rfl rfl Parts.nil) rfl) rfl ?_; refine ALK.e (ope_append (b := 24) [x.1] rfl rfl rfl rfl rfl (eB rfl) (eB rfl) rfl rfl (by rw [hl]; simp; omega) rfl) rfl rfl ?_; refine ALK.e (ope_store rfl (Ev.is rfl) (eB rfl) cs_row rfl rfl rfl) rfl rfl ?_; refine ALK.nil ?_; try show WP _ _ _ _ _ _)
    refine ⟨rfl, ?_⟩
    show Shift _ _ _ ⟨[(2, .is (ts.getD 2 undef) (.off 0 0)), (6, .is (ts.getD 6 undef) (.im (IV.fnM 113 [hallV p s])))], _, _⟩
    exact Shift.sub [(0, 0), (1, 3)] rfl SubE.a (SubH.cons rfl rfl (ObLe.blk (SLes.cons (SLe.row rfl (by rw [hl]; simp)) SLes.nil)) (SubH.cons rfl rfl (ObLe.row hsn.symm) SubH.nil))
  · rintro F2 xs hS
    ((repeat apply WP.seq); apply WP.lreg; refine ALK.r (opr_load rfl (eB rfl) rfl rfl) rfl ?_; refine nA rfl rfl ?_; refine ALK.nil ?_; try show WP _ _ _ _ _ _)
    rw [hS]
    refine WP.ret ⟨rfl, rfl, ?_⟩
    exact RetP.row hG Try.results137 rfl rfl
set_option maxRecDepth 100000 in
theorem Collect_row (p : Plan) (s : StT) (v : Valid p s) (hB : TxsB p.txns) : FnRow (Cfg.mk Try.prog (ttAt ttl) ttl_ok.ok mixd) 112 [IV.fnM 113 [hallV p s]] 40 3 cStp (canL p s) := by
  refine FnRow.of_wp _ (fun _ => rfl) Try.func112 rfl (by kernel_rfl) Try.ntmps112 rfl ?_
  intro F hD hG
  ((repeat apply WP.seq); apply WP.lreg; refine nA rfl rfl ?_; refine ALK.nil ?_; try show WP _ _ _ _ _ _)
  ((repeat apply WP.seq); apply WP.lreg; refine nM rfl rfl ?_; refine ALK.a (opa_callRow (AppendSeq_row p s v hB) (Evs.cons Ev.a (Evs.cons Ev.a Evs.nil))) rfl ?_; refine nA rfl rfl ?_; refine ALK.nil ?_; try show WP _ _ _ _ _ _)
  ((repeat apply WP.seq); refine WP.ret ?_; exact ⟨_, _, _, Try.results112, rfl, rfl⟩)
set_option maxRecDepth 100000 in
theorem Steps_row (p : Plan) (s : StT) (v : Valid p s) (hB : TxsB p.txns) : FnRow (Cfg.mk Try.prog (ttAt ttl) ttl_ok.ok mixd) 59 [planV p, stV s] 40 3 cStp (canL p s) := by
  refine FnRow.of_wp _ (fun _ => rfl) Try.func59 rfl (by kernel_rfl) Try.ntmps59 rfl ?_
  intro F hD hG
  ((repeat apply WP.seq); apply WP.lreg; refine ALK.n (opn_box (eB rfl) Cs.a rfl) rfl ?_; refine ALK.n (opn_box (eB rfl) Cs.a rfl) rfl ?_; refine nA rfl rfl ?_; refine ALK.nil ?_; try show WP _ _ _ _ _ _)
  ((repeat apply WP.seq); apply WP.lreg; (first | refine ALK.n (opn_load rfl (eB rfl) rfl) rfl ?_ | refine ALK.r OpR.ld rfl ?_); refine ALK.n (opn_call (of_fn p s v.shp hB) (Evs.cons Ev.a (Evs.cons Ev.a Evs.nil))) rfl ?_; refine ALK.n (opn_makeFuncM (Evs.cons (eB rfl) .nil)) rfl ?_; refine ALK.a (opa_callRow (Collect_row p s v hB) (Evs.cons Ev.a Evs.nil)) rfl ?_; refine nA rfl rfl ?_; refine ALK.nil ?_; try show WP _ _ _ _ _ _)
  ((repeat apply WP.seq); refine WP.ret ?_; exact ⟨_, _, _, Try.results59, rfl, rfl⟩)
theorem flat_cStp : ∀ (x : StepT), ∀ s ∈ cStp x, FlatI s := fun x s hs => by
  simp only [cStp, List.mem_cons, List.not_mem_nil, or_false] at hs
  rcases hs with rfl | rfl | rfl <;> exact FlatI.val _
theorem Steps_new (p : Plan) (s : StT) (v : Valid p s) (hB : TxsB p.txns) : FnN (Cfg.mk Try.prog (ttAt ttl) ttl_ok.ok mixd) 59 [planV p, stV s] (stpsV (canL p s)) := FnN.of_row (Steps_row p s v hB) flat_cStp
def canE (p : Plan) (s : StT) : List StepT := if checkState p s = 0 then canL p s else []
set_option maxRecDepth 100000 in
theorem Can_fn (p : Plan) (s : StT) (hB : TxsB p.txns) : Fn (Cfg.mk Try.prog (ttAt ttl) ttl_ok.ok mixd) 19 [planV p, stV s] (IV.tup [stpsV (canE p s), IV.int (checkState p s)]) := by
  refine Fn.of_wp _ Try.func19 rfl (by kernel_rfl) Try.ntmps19 rfl ?_
  intro F hD hG
  ((repeat apply WP.seq); apply WP.lreg; refine ALK.n (opn_box (eB rfl) Cs.a rfl) rfl ?_; refine ALK.n (opn_box (eB rfl) Cs.a rfl) rfl ?_; refine nA rfl rfl ?_; refine nA rfl rfl ?_; refine ALK.nil ?_; try show WP _ _ _ _ _ _)
  ((repeat apply WP.seq); apply WP.lreg; (first | refine ALK.n (opn_load rfl (eB rfl) rfl) rfl ?_ | refine ALK.r OpR.ld rfl ?_); (first | refine ALK.n (opn_load rfl (eB rfl) rfl) rfl ?_ | refine ALK.r OpR.ld rfl ?_); refine ALK.n (opn_call (steps_Check_fn p s hB) (Evs.cons Ev.a (Evs.cons Ev.a Evs.nil))) rfl ?_; refine nA rfl rfl ?_; refine ALK.nil ?_; try show WP _ _ _ _ _ _)
  ((repeat apply WP.seq); apply WP.lreg; refine nM rfl rfl ?_; refine ALK.n OpN.cm rfl ?_; refine ALK.nil ?_; try show WP _ _ _ _ _ _)
  ((repeat apply WP.seq); refine WP.cond rfl (fun h => ?_) (fun h => ?_))
  · ((repeat apply WP.seq); apply WP.lreg; refine nM rfl rfl ?_; refine nA rfl rfl ?_; refine nA rfl rfl ?_; refine ALK.nil ?_; try show WP _ _ _ _ _ _)
    have hr : canE p s = [] := by unfold canE; rw [if_neg (by simpa using h)]
    rw [hr]
    ((repeat apply WP.seq); refine WP.ret ?_; first | exact RetOk.one Try.results19 ResV.a | exact RetOk.tup Try.results19 rfl ResVs.a)
  (refine WP.skip ?_; show WP _ _ _ _ _ _)
  have h0 : checkState p s = 0 := by simpa using h
  have v := valid_iff.1 h0
  have hr : canE p s = canL p s := by unfold canE; rw [if_pos h0]
  rw [hr, h0]
  ((repeat apply WP.seq); apply WP.lreg; (first | refine ALK.n (opn_load rfl (eB rfl) rfl) rfl ?_ | refine ALK.r OpR.ld rfl ?_); (first | refine ALK.n (opn_load rfl (eB rfl) rfl) rfl ?_ | refine ALK.r OpR.ld rfl ?_); refine ALK.n (opn_call (Steps_new p s v hB).fn (Evs.cons Ev.a (Evs.cons Ev.a Evs.nil))) rfl ?_; refine nA rfl rfl ?_; refine nA rfl rfl ?_; refine ALK.nil ?_; try show WP _ _ _ _ _ _)
  ((repeat apply WP.seq); refine WP.ret ?_; first | exact RetOk.one Try.results19 ResV.a | exact RetOk.tup Try.results19 rfl ResVs.a)
end Go.Proofs.Ytjgmbgfcffnanac
