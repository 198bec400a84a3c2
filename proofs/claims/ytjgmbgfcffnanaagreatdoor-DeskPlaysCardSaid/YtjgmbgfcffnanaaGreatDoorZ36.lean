/- Package steps: the iterator over the steps that may be; Steps and Can. Package desk: must, num, put, step. -/
import Derived.RangeFuncBox
import Derived.Shelf.Abstract
import Derived.OwnWalkIn
import Derived.TacticsInMore
import Derived.LoopIn
import Derived.Test.YtjgmbgfcffnanaaGreatDoorZ34
import Derived.Test.YtjgmbgfcffnanaaGreatDoorZ35
set_option maxRecDepth 100000
set_option maxHeartbeats 4000000
namespace Go.Proofs.YtjgmbgfcffnanaaGreatDoor
open Go.RowKit Go.Shelf
theorem Agr.belowM {μ : Mem} {w w' : World} {n : Nat} (h : Agr μ w) (hb : Below n w w') (hn : w.heap.size ≤ n) : Agr μ w' := fun b cs hb2 => by
 obtain ⟨t,fz,hh⟩ := h b cs hb2
 exact ⟨t,fz,(hb.block b (Nat.lt_of_lt_of_le (Array.getElem?_eq_some_iff.1 hh).1 hn)).trans hh⟩
theorem Agr.cellM {μ : Mem} {w : World} (h : Agr μ w) {b o : Nat} {cs : Array Value} {v : Value} (hb : μ b = some cs) (ho : cs[o]? = some v) : w.cell? ⟨b,o,none⟩ = some v := by
 obtain ⟨t,fz,hh⟩ := h b cs hb
 simp only [World.cell?,hh]
 exact ho
def CanAt (p : Plan) (s : StT) : Type := { x : StepT // x ∈ canL p s }
def stpVal (x : StepT) : Value := .agg #[.int .i64 x.kind,.int .i64 x.txn,.int .i64 x.shard]
theorem abide {B : Nat} {β : Type} {J : β → World → Prop} (h : AbidesFrom B J) {s : β} {w w' : World} (hj : J s w) (hb : Below w.heap.size w w') : J s w' :=
 h s w w' none hj ⟨hb.os,hb.tape,hb.output,hb.size,fun k hk _ => hb.block k hk⟩ (fun r e => by cases e)
theorem run_two0 (w : World) : (Instr.index 234 (.agg #[.int .i64 1,.int .i64 2]) (.int .i64 0)).run Tryz.prog w = .ok (.int .i64 1) w := by
 obtain ⟨i0,hi0,_,_,_⟩ := info_parts intInfo
 simp [Instr.index,asIntOf,run_underlying Tryz.underlying234,sizeOf,typeInfo,go_sem,hi0]
theorem run_two1 (w : World) : (Instr.index 234 (.agg #[.int .i64 1,.int .i64 2]) (.int .i64 1)).run Tryz.prog w = .ok (.int .i64 2) w := by
 obtain ⟨i0,hi0,_,hs,_⟩ := info_parts intInfo
 simp [Instr.index,asIntOf,run_underlying Tryz.underlying234,sizeOf,typeInfo,go_sem,hi0,hs]
theorem can_in (p : Plan) (s : StT) (v : Valid p s) (μ : Mem) (B l bH oH bP oP : Nat) (A : Option Addr) (c : Nat) (J : List (CanAt p s) → World → Prop) (hJ : AbidesFrom B J)
 (hh : ∀ W,Agr μ W → W.cell? ⟨bH,oH,none⟩ = some (.pointer (some ⟨bP,oP,none⟩)))
 (hp0 : ∀ W,Agr μ W → W.cell? ⟨bP,oP,none⟩ = some (.int .i64 (mS p : Int)))
 (hp1 : ∀ W,Agr μ W → W.cell? ⟨bP,oP + 1,none⟩ = some (.slice A (nT p) c))
 (hmay : ∀ W,Agr μ W → ∀ (kind : Int) (n k : Nat),n < nT p → k < mS p → Calls Tryz.prog 134 #[.pointer (some ⟨bH,oH,none⟩),.agg #[.int .i64 kind,.int .i64 (n : Int),.int .i64 (k : Int)]] W fun e W' => e = .returned (.bool (mayB p s kind n k)) ∧ Below W.heap.size W W')
 (hY : ∀ (pre : List (CanAt p s)) (x : CanAt p s) (W : World),J pre W → pre.length < 1000 → YieldAt Fence.wide 7 Tryz.prog l #[stpVal x.1] W fun e W' => e = .returned (.bool true) ∧ J (pre ++ [x]) W' ∧ (Agr μ W → Agr μ W'))
 (W : World) (ha : Agr μ W) (h0 : J [] W) :
 CallsIn Fence.wide 8 Tryz.prog 123 #[.pointer (some ⟨bH,oH,none⟩),.func (.yield l) #[] #[]] W fun e W' => (∃ v,e = .returned v) ∧ ∃ xs : List (CanAt p s),xs.map (·.1) = canL p s ∧ J xs W' := by
 obtain ⟨hm,hm1,hm4,hn8,hall⟩ := oO v.plan
 have hmn : nT p * mS p ≤ 8 * 4 := Nat.mul_le_mul hn8 hm4
 refine callsIn_of_wp Tryz.func123 rfl trivial ?_ rfl
 simp only [Tryz.ntmps123,List.size_toArray,List.length_cons,List.length_nil,Nat.reduceAdd,Nat.reduceSub,Array.replicate_succ,Array.replicate_zero,List.push_toArray,List.append_toArray,List.nil_append,List.cons_append]
 gi_wp2
 gi_loopw [10] (fun e wr => ∃ k : Nat,k ≤ 2 ∧ e = .int .i64 k ∧ ∃ pre : List (CanAt p s),pre.map (·.1) = canTo p s (k + 1) ∧ J pre wr ∧ Agr μ wr)
  (fun e _ => 2 - (intOf e).toNat)
 case atStart => exact ⟨0,by omega,rfl,[],rfl,h0,ha⟩
 case round =>
  obtain ⟨k,hk,rfl,pre,hp,hJ1,hag⟩ := hrel
  by_cases hlt : k < 2
  ·obtain ⟨c1,hc1⟩ : ∃ c1,c1 = canTo p s (k + 1) := ⟨_,rfl⟩
   obtain ⟨c2,hc2⟩ : ∃ c2,c2 = canTo p s (k + 2) := ⟨_,rfl⟩
   obtain ⟨kd,hkd⟩ : ∃ kd : Int,kd = (k : Int) + 1 := ⟨_,rfl⟩
   have hcn : c2 = c1 ++ canKind p s kd (nT p) := by
    rw [hc1,hc2,hkd]
    have := canTo_next (p := p) (s := s) (c := k + 1) (by omega) (by omega)
    rw [this];push_cast;rfl
   have hcl : c1.length ≤ 64 := by rw [hc1];exact canTo_len hm4 hn8 _
   have hcA : ∀ x,x ∈ c1 ++ canKind p s kd (nT p) → x ∈ canL p s := fun x hx => by
    rw [← hcn,hc2] at hx
    have : k = 0 ∨ k = 1 := by omega
    rcases this with rfl | rfl
    ·exact List.mem_append_left _ hx
    ·exact hx
   rw [← hc1] at hp
   have hx1 := hh _ hag
   have hx2 := hp1 _ hag
   have hx3 := hp0 _ hag
   have hk01 : k = 0 ∨ k = 1 := by omega
   clear hc1
   rcases hk01 with rfl | rfl
   ·simp only [Int.natCast_zero,Int.zero_add] at hkd
    have hidx := run_two0
    gi_wp2
    gi_loopw [21] (fun e wr => ∃ n : Nat,n ≤ nT p ∧ e = .int .i64 n ∧ ∃ pre : List (CanAt p s),pre.map (·.1) = c1 ++ canKind p s kd n ∧ J pre wr ∧ Agr μ wr)
     (fun e _ => nT p - (intOf e).toNat)
    case atStart => exact ⟨0,by omega,rfl,pre,by rw [hp];simp [canKind],hJ1,hag⟩
    case round =>
     obtain ⟨n,hn,rfl,pre2,hp2,hJ2,hag2⟩ := hrel
     by_cases hnl : n < nT p
     ·have hx1 := hh _ hag2
      have hx3 := hp0 _ hag2
      gi_wp2
      gi_loopw [31] (fun e wr => ∃ j : Nat,j ≤ mS p ∧ e = .int .i64 j ∧ ∃ pre : List (CanAt p s),pre.map (·.1) = c1 ++ canKind p s kd n ++ canRow p s kd n j ∧ J pre wr ∧ Agr μ wr)
       (fun e _ => mS p - (intOf e).toNat)
      case atStart => exact ⟨0,by omega,rfl,pre2,by rw [hp2];simp [canRow],hJ2,hag2⟩
      case round =>
       obtain ⟨j,hj,rfl,pre3,hp3,hJ3,hag3⟩ := hrel
       by_cases hjl : j < mS p
       ·gi_wp2
        have hagA : Agr μ (wr.alloc (.cells #[.int .i64 1,.int .i64 (n : Int),.int .i64 (j : Int)] 135)) := hag3.belowM (Bel.alloc (Below.refl wr.heap.size wr) _) (Nat.le_refl _)
        refine ⟨trivial,callsIn_wide.2 ((hmay _ hagA 1 n j hnl hjl).mono ?_)⟩
        rintro e w2 ⟨rfl,hb⟩
        have hB : Below wr.heap.size wr w2 := Bel.step (Bel.alloc (Below.refl _ _) _) hb
        have hJw := abide hJ hJ3 hB
        have hagw : Agr μ w2 := hag3.belowM hB (Nat.le_refl _)
        have d0 : w2.cell? ⟨wr.heap.size,0,none⟩ = some (.int .i64 1) := (hb.cell (p := ⟨wr.heap.size,0,none⟩) (by simp)).trans (by simp [World.cell?_alloc_new])
        have d1 : w2.cell? ⟨wr.heap.size,1,none⟩ = some (.int .i64 (n : Int)) := (hb.cell (p := ⟨wr.heap.size,1,none⟩) (by simp)).trans (by simp [World.cell?_alloc_new])
        have d2 : w2.cell? ⟨wr.heap.size,2,none⟩ = some (.int .i64 (j : Int)) := (hb.cell (p := ⟨wr.heap.size,2,none⟩) (by simp)).trans (by simp [World.cell?_alloc_new])
        have hrn := jw p s kd n j
        rw [hkd] at hrn
        clear hb hB
        cases hmb : mayB p s 1 n j with
        | true =>
         rw [hmb,if_pos rfl] at hrn
         have hmem : (⟨1,n,j⟩ : StepT) ∈ canL p s := uI.2 ⟨n,j,.inl rfl,rfl,hnl,hjl,hmb⟩
         have hl3 : pre3.length < 1000 := by
          have h1 := congrArg List.length hp3
          rw [List.length_map,List.length_append,List.length_append] at h1
          have h2 := uh p s kd n
          have h3 := j0 p s kd n j
          have h4 : n * mS p ≤ nT p * mS p := Nat.mul_le_mul_right _ hn
          omega
         obtain ⟨fn,tmps,assign,body,hy,hR⟩ := hY pre3 ⟨⟨1,n,j⟩,hmem⟩ w2 hJw hl3
         simp only [stpVal] at hy
         gi_wp2
         refine hR.mono ?_
         rintro e W3 ⟨rfl,hJ4,hk3⟩
         gi_wp2
         go_roundw
         case rel =>
          (repeat apply Exists.intro)
          refine ⟨?_,rfl⟩
          exact ⟨j + 1,by omega,by simp,_,by rw [List.map_append,hp3,hkd,hrn,List.append_assoc];rfl,hJ4,hk3 hagw⟩
         case measure => simp [intOf];omega
        | false =>
         rw [hmb,if_neg (by simp),List.append_nil] at hrn
         gi_wp2
         refine ⟨fun _ h => (by cases h),?_⟩
         gi_wp2
         go_roundw
         case rel =>
          (repeat apply Exists.intro)
          refine ⟨?_,rfl⟩
          exact ⟨j + 1,by omega,by simp,_,by rw [hp3,hkd,hrn],hJw,hagw⟩
         case measure => simp [intOf];omega
       ·obtain rfl : j = mS p := by omega
        gi_wp2
        go_roundw
        case rel => exact ⟨n + 1,by omega,by simp,_,by rw [hp3,uQ,List.append_assoc],hJ3,hag3⟩
        case measure => simp [intOf];omega
     ·obtain rfl : n = nT p := by omega
      gi_wp2
      go_roundw
      case rel => exact ⟨1,by omega,by simp,_,by rw [hp2,← hcn,hc2],hJ2,hag2⟩
      case measure => simp [intOf]
   ·replace hkd : kd = 2 := by rw [hkd];rfl
    have hidx := run_two1
    gi_wp2
    gi_loopw [21] (fun e wr => ∃ n : Nat,n ≤ nT p ∧ e = .int .i64 n ∧ ∃ pre : List (CanAt p s),pre.map (·.1) = c1 ++ canKind p s kd n ∧ J pre wr ∧ Agr μ wr)
     (fun e _ => nT p - (intOf e).toNat)
    case atStart => exact ⟨0,by omega,rfl,pre,by rw [hp];simp [canKind],hJ1,hag⟩
    case round =>
     obtain ⟨n,hn,rfl,pre2,hp2,hJ2,hag2⟩ := hrel
     by_cases hnl : n < nT p
     ·have hx1 := hh _ hag2
      have hx3 := hp0 _ hag2
      gi_wp2
      gi_loopw [31] (fun e wr => ∃ j : Nat,j ≤ mS p ∧ e = .int .i64 j ∧ ∃ pre : List (CanAt p s),pre.map (·.1) = c1 ++ canKind p s kd n ++ canRow p s kd n j ∧ J pre wr ∧ Agr μ wr)
       (fun e _ => mS p - (intOf e).toNat)
      case atStart => exact ⟨0,by omega,rfl,pre2,by rw [hp2];simp [canRow],hJ2,hag2⟩
      case round =>
       obtain ⟨j,hj,rfl,pre3,hp3,hJ3,hag3⟩ := hrel
       by_cases hjl : j < mS p
       ·gi_wp2
        have hagA : Agr μ (wr.alloc (.cells #[.int .i64 2,.int .i64 (n : Int),.int .i64 (j : Int)] 135)) := hag3.belowM (Bel.alloc (Below.refl wr.heap.size wr) _) (Nat.le_refl _)
        refine ⟨trivial,callsIn_wide.2 ((hmay _ hagA 2 n j hnl hjl).mono ?_)⟩
        rintro e w2 ⟨rfl,hb⟩
        have hB : Below wr.heap.size wr w2 := Bel.step (Bel.alloc (Below.refl _ _) _) hb
        have hJw := abide hJ hJ3 hB
        have hagw : Agr μ w2 := hag3.belowM hB (Nat.le_refl _)
        have d0 : w2.cell? ⟨wr.heap.size,0,none⟩ = some (.int .i64 2) := (hb.cell (p := ⟨wr.heap.size,0,none⟩) (by simp)).trans (by simp [World.cell?_alloc_new])
        have d1 : w2.cell? ⟨wr.heap.size,1,none⟩ = some (.int .i64 (n : Int)) := (hb.cell (p := ⟨wr.heap.size,1,none⟩) (by simp)).trans (by simp [World.cell?_alloc_new])
        have d2 : w2.cell? ⟨wr.heap.size,2,none⟩ = some (.int .i64 (j : Int)) := (hb.cell (p := ⟨wr.heap.size,2,none⟩) (by simp)).trans (by simp [World.cell?_alloc_new])
        have hrn := jw p s kd n j
        rw [hkd] at hrn
        clear hb hB
        cases hmb : mayB p s 2 n j with
        | true =>
         rw [hmb,if_pos rfl] at hrn
         have hmem : (⟨2,n,j⟩ : StepT) ∈ canL p s := uI.2 ⟨n,j,.inr rfl,rfl,hnl,hjl,hmb⟩
         have hl3 : pre3.length < 1000 := by
          have h1 := congrArg List.length hp3
          rw [List.length_map,List.length_append,List.length_append] at h1
          have h2 := uh p s kd n
          have h3 := j0 p s kd n j
          have h4 : n * mS p ≤ nT p * mS p := Nat.mul_le_mul_right _ hn
          omega
         obtain ⟨fn,tmps,assign,body,hy,hR⟩ := hY pre3 ⟨⟨2,n,j⟩,hmem⟩ w2 hJw hl3
         simp only [stpVal] at hy
         gi_wp2
         refine hR.mono ?_
         rintro e W3 ⟨rfl,hJ4,hk3⟩
         gi_wp2
         go_roundw
         case rel =>
          (repeat apply Exists.intro)
          refine ⟨?_,rfl⟩
          exact ⟨j + 1,by omega,by simp,_,by rw [List.map_append,hp3,hkd,hrn,List.append_assoc];rfl,hJ4,hk3 hagw⟩
         case measure => simp [intOf];omega
        | false =>
         rw [hmb,if_neg (by simp),List.append_nil] at hrn
         gi_wp2
         refine ⟨fun _ h => (by cases h),?_⟩
         gi_wp2
         go_roundw
         case rel =>
          (repeat apply Exists.intro)
          refine ⟨?_,rfl⟩
          exact ⟨j + 1,by omega,by simp,_,by rw [hp3,hkd,hrn],hJw,hagw⟩
         case measure => simp [intOf];omega
       ·obtain rfl : j = mS p := by omega
        gi_wp2
        go_roundw
        case rel => exact ⟨n + 1,by omega,by simp,_,by rw [hp3,uQ,List.append_assoc],hJ3,hag3⟩
        case measure => simp [intOf];omega
     ·obtain rfl : n = nT p := by omega
      gi_wp2
      go_roundw
      case rel => exact ⟨2,by omega,by simp,_,by rw [hp2,← hcn,hc2],hJ2,hag2⟩
      case measure => simp [intOf]
  ·obtain rfl : k = 2 := by omega
   gi_wp2
   go_end0
   exact ⟨⟨_,rfl⟩,_,hp,hJ1⟩
theorem can_iter (p : Plan) (s : StT) (v : Valid p s) (hB : TxsB p.txns) : IterM CC 123 [hallV p s] (fun x : CanAt p s => stpVal x.1) 1000 (fun xs => xs.map (·.1) = canL p s) := by
 obtain ⟨hm,hm1,hm4,hn8,hall⟩ := oO v.plan
 refine ⟨⟨_,Tryz.func123,rfl,by kernel_rfl⟩,fun μ vs w hvs ha l J W hW hJ hY h0 => ?_⟩
 have haW := ha.belowM hW (Nat.le_refl _)
 have hall0 := hvs
 obtain ⟨u,vs',rfl,hu,h1⟩ := hvs
 have h1 : vs' = [] := h1
 subst h1
 obtain ⟨bH,oH,rfl,hcl⟩ := hu
 obtain ⟨cs,u0,k1,k2,k3,_⟩ := hcl 0 _ rfl
 obtain ⟨bP,oP,rfl,hpl⟩ := k3
 obtain ⟨cs0,u1,k4,k5,k6,_⟩ := hpl 0 _ rfl
 obtain ⟨cs1,u2,k7,k8,k9,_⟩ := hpl 1 _ rfl
 obtain ⟨A,c,rfl,_,_,_⟩ := k9
 have k6 : u1 = .int .i64 p.shards := k6
 subst k6
 refine can_in p s v μ W.heap.size l bH oH bP oP A c J hJ (fun W hA => hA.cellM k1 k2) (fun W hA => by rw [← hm];exact hA.cellM k4 k5) (fun W hA => hA.cellM k7 k8) (fun W hA kind n k hn hk => ?_) hY W haW h0
 refine ((may_fn p s kind n k v.plan hB hn hk).2 μ W [.pointer (some ⟨bH,oH,none⟩),.agg #[.int .i64 kind,.int .i64 (n : Int),.int .i64 (k : Int)]] ⟨_,_,rfl,⟨bH,oH,rfl,hcl⟩,_,_,rfl,⟨[.int .i64 kind,.int .i64 (n : Int),.int .i64 (k : Int)],rfl,⟨_,_,rfl,rfl,_,_,rfl,rfl,_,_,rfl,rfl,rfl⟩,?_⟩,rfl⟩ hA).mono ?_
 ·intro u hu
  simp only [List.mem_cons,List.not_mem_nil,or_false] at hu
  rcases hu with rfl | rfl | rfl <;> rfl
 ·rintro e W' ⟨z,μ',rfl,hz,hs⟩
  have hz : z = .bool (mayB p s kind n k) := hz
  rw [hz]
  exact ⟨rfl,hs.below⟩
section
variable {C : Cfg} {σ : Env} {d : Option Tmp} {ty : TypeId} {pos : String} {after : Array Edge} {gu : Option (Nat × Bool)}
theorem opn_makeFuncM {f : FuncId} {first : List Go.Operand} {l : List IV} (hx : Evs σ first l) : OpN C ⟨d,.makeFunc (.func f) first.toArray #[],ty,pos,after,gu⟩ σ (.im (IV.fnM f l)) := OpN.pure fun ρ μ a w hl ha => by
 have h := hx.at hl (fun x hx => by simp [Op.operands,hx])
 exact ⟨.func (.func f) (first.map a.eval).toArray #[],by simp [execOp,Instr.makeFunc],oi.2 ⟨_,rfl,h⟩⟩
end
theorem stp_ile (x : StepT) : ILe (IV.val (stpVal x)) (IV.agg (cStp x)) := fun μ v hv => by
 have hv : v = stpVal x := hv
 subst hv
 refine ⟨[.int .i64 x.kind,.int .i64 x.txn,.int .i64 x.shard],rfl,⟨_,_,rfl,rfl,_,_,rfl,rfl,_,_,rfl,rfl,rfl⟩,?_⟩
 intro u hu
 simp only [List.mem_cons,List.not_mem_nil,or_false] at hu
 rcases hu with rfl | rfl | rfl <;> rfl
theorem AppendSeq_row (p : Plan) (s : StT) (v : Valid p s) (hB : TxsB p.txns) : FnRow CC 160 [IV.val (.slice none 0 0),IV.fnM 123 [hallV p s]] 135 3 cStp (canL p s) := by
 obtain ⟨hm,hm1,hm4,hn8,hall⟩ := oO v.plan
 refine FnRow.of_raw _ (fun _ => rfl) Tryz.func160 rfl (by kernel_rfl) Tryz.ntmps160 rfl ?_
 intro F hD hro hG
 refine RawP.seq hD hro ?_
 (refine zR ?_;refine ALK.a (uT (eB rfl) (cs_val rfl)) rfl ?_;refine sA ?_;refine zN ?_)
 refine RawP.seq2 hD hro ?_
 (refine zR ?_;refine sA ?_;refine zN ?_)
 refine Raw.range1 (α := CanAt p s) (σ := [(2,.off 0 0),(6,.im (IV.fnM 123 [hallV p s]))])
  (fun xs => ([(0,.blk 139 [.row 1 xs.length]),(1,.row 135 3 cStp (xs.map (·.1)))],2)) (fun _ => rfl) hD hro
  (Shift.trans (Shift.row0In 0 0 135 3 cStp (fun _ => rfl) rfl rfl rfl) (Shift.sub [(0,0),(1,1)] rfl SubE.a SubH.a)) rfl (can_iter p s v hB) rfl rfl ?_ ?_
 ·rintro F' hD' ts pre x hlen
  show WP _ _ _ _ _ ⟨[(7,.im (IV.val (stpVal x.1))),(2,.is (ts.getD 2 undef) (.off 0 0)),(6,.is (ts.getD 6 undef) (.im (IV.fnM 123 [hallV p s])))],[(0,.blk 139 [.row 1 pre.length]),(1,.row 135 3 cStp (pre.map (·.1)))],2⟩
  refine WP.shift (Shift.sub (σ' := [(7,.im (IV.agg (cStp x.1))),(2,.is (ts.getD 2 undef) (.off 0 0)),(6,.is (ts.getD 6 undef) (.im (IV.fnM 123 [hallV p s])))]) (H' := [(0,.blk 139 [.row 1 pre.length]),(1,.row 135 3 cStp (pre.map (·.1)))]) (fr' := 2) [(0,0),(1,1)] rfl (SubE.cons rfl (SLe.im (stp_ile x.1)) SubE.a) SubH.a) ?_
  (refine zR ?_;(iterate 2 refine sA ?_);refine zN ?_)
  refine ⟨rfl,rfl,fun F2 hD2 => ?_⟩
  have hl : (pre.map (·.1)).length = pre.length := List.length_map ..
  have hsn : (pre ++ [x]).map (fun x => x.1) = pre.map (·.1) ++ [x.1] := by rw [List.map_append];rfl
  refine zB ?_
  (refine zR ?_;refine ALK.r (oK rfl (Ev.is rfl) rfl rfl) rfl ?_;refine sI ?_;refine ALK.n (o6 rfl rfl rfl rfl rfl rfl (Pc rfl (eB rfl) Cs.a rfl rfl Parts.nil) rfl) rfl ?_;refine ALK.e (o8 (b := 24) [x.1] rfl rfl rfl rfl rfl (eB rfl) (eB rfl) rfl rfl (by rw [hl];simp;omega) rfl) rfl rfl ?_;refine ALK.e (oz rfl (Ev.is rfl) (eB rfl) cs_row rfl rfl rfl) rfl rfl ?_;refine zN ?_)
  refine ⟨rfl,?_⟩
  show Shift _ _ _ ⟨[(2,.is (ts.getD 2 undef) (.off 0 0)),(6,.is (ts.getD 6 undef) (.im (IV.fnM 123 [hallV p s])))],_,_⟩
  exact Shift.sub [(0,0),(1,3)] rfl SubE.a (SubH.cons rfl rfl (ObLe.blk (SLes.cons (SLe.row rfl (by rw [hl];simp)) SLes.nil)) (SubH.cons rfl rfl (ObLe.row hsn.symm) SubH.nil))
 ·rintro F2 xs hS
  (refine zR ?_;refine ALK.r (oK rfl (eB rfl) rfl rfl) rfl ?_;refine sA ?_;refine zN ?_)
  rw [hS]
  refine WP.ret ⟨rfl,rfl,?_⟩
  exact RetP.row hG Tryz.results160 rfl rfl
theorem Collect_row (p : Plan) (s : StT) (v : Valid p s) (hB : TxsB p.txns) : FnRow CC 122 [IV.fnM 123 [hallV p s]] 135 3 cStp (canL p s) := by
 refine FnRow.of_wp _ (fun _ => rfl) Tryz.func122 rfl (by kernel_rfl) Tryz.ntmps122 rfl ?_
 intro F hD hG
 (refine zR ?_;refine sA ?_;refine zN ?_)
 (refine zR ?_;refine sA ?_;refine ALK.a (yp (AppendSeq_row p s v hB) (Evs.cons Ev.a (Evs.cons Ev.a Evs.nil))) rfl ?_;refine sA ?_;refine zN ?_)
 ((repeat apply WP.seq);refine WP.ret ?_;exact ⟨_,_,_,Tryz.results122,rfl,rfl⟩)
theorem Steps_row (p : Plan) (s : StT) (v : Valid p s) (hB : TxsB p.txns) : FnRow CC 85 [planV p,stV s] 135 3 cStp (canL p s) := by
 refine FnRow.of_wp _ (fun _ => rfl) Tryz.func85 rfl (by kernel_rfl) Tryz.ntmps85 rfl ?_
 intro F hD hG
 (refine zR ?_;(iterate 3 refine sA ?_);refine zN ?_)
 (refine zR ?_;refine sA ?_;refine ALK.n (o3 (of_fn p s v.shp hB) (Evs.cons Ev.a (Evs.cons Ev.a Evs.nil))) rfl ?_;refine ALK.n (opn_makeFuncM (Evs.cons (eB rfl) .nil)) rfl ?_;refine ALK.a (yp (Collect_row p s v hB) (Evs.cons Ev.a Evs.nil)) rfl ?_;refine sA ?_;refine zN ?_)
 ((repeat apply WP.seq);refine WP.ret ?_;exact ⟨_,_,_,Tryz.results85,rfl,rfl⟩)
theorem flat_cStp : ∀ (x : StepT),∀ s ∈ cStp x,FlatI s := fun x s hs => by
 simp only [cStp,List.mem_cons,List.not_mem_nil,or_false] at hs
 rcases hs with rfl | rfl | rfl <;> exact FlatI.val _
theorem Steps_new (p : Plan) (s : StT) (v : Valid p s) (hB : TxsB p.txns) : FnN CC 85 [planV p,stV s] (stpsV (canL p s)) := FnN.of_row (Steps_row p s v hB) flat_cStp
end Go.Proofs.YtjgmbgfcffnanaaGreatDoor
namespace Go.Proofs.YtjgmbgfcffnanaaGreatDoor
open Go.RowKit
section
variable {C : Cfg} {F : Fx} {nt : Nat} {σ : Env} {H : List Ent} {fr : Nat} {d : Option Tmp} {ty : TypeId} {pos : String} {after : Array Edge} {gu : Option (Nat × Bool)}
theorem Shift.gh {M : Mem} {s : IV} (t : Nat) (h : lk σ t = some (.im (IV.wth M s))) (_ : nt ≤ ghT) : Shift F nt ⟨σ,H,fr⟩ ⟨(t,.im s) :: (ghT,.im (IV.gh M)) :: σ,H,fr⟩ := fun μ ρ a w hi => by
 have h1 := oi.1 (hi.env t _ h)
 exact ⟨μ,ρ,(hi.slot (d := ghT) (s := .im (IV.gh M)) (oi.2 h1.2)).slot (oi.2 h1.1)⟩
theorem Ev.agg1 {x : Go.Operand} {u : Value} (h : Ev σ x (.agg [.im (IV.val u)])) : Ev σ x (.im (IV.val (.agg #[u]))) := h.to fun ρ μ v hv => by
 unfold SV.R at hv
 obtain ⟨vs,rfl,h1,_⟩ := hv
 unfold SV.Rs at h1
 obtain ⟨v0,r,rfl,h2,h3⟩ := h1
 unfold SV.Rs at h3
 subst h3
 have h2 : v0 = u := oi.1 h2
 subst h2
 exact oi.2 rfl
end
theorem err_eq_yes (w : World) : (binOp .eql 51 .nilIface .nilIface).run Tryz.prog w = .ok (.bool true) w := by kernel_rfl
theorem err_eq_no (t : TypeId) (u : Value) (w : World) : (binOp .eql 51 (.iface t u) .nilIface).run Tryz.prog w = .ok (.bool false) w := by kernel_rfl
theorem opn_eqErr {σ : Env} {d : Option Tmp} {ty : TypeId} {pos : String} {after : Array Edge} {gu : Option (Nat × Bool)} {t' : TypeId} {x : Go.Operand} {b : Bool} (hx : Ev σ x (.im (IV.errB b))) : OpN CC ⟨d,.binOp .eql 51 x (.const .nilIface) t',ty,pos,after,gu⟩ σ (.im (IV.bool b)) := OpN.pure fun ρ μ a w hl ha => by
 have h1 := hx.im hl (by simp [Op.operands])
 refine ⟨.bool b,?_,oi.2 rfl⟩
 cases b with
 | true =>
  have h1 : a.eval x = .nilIface := h1
  have hg : (eqGuard .eql 51 x (.const .nilIface) .nilIface .nilIface).run Tryz.prog w = .ok () w := by unfold eqGuard;simp
  have h2 : a.eval (.const .nilIface) = .nilIface := rfl
  have hb := err_eq_yes w
  simp only [execOp,h1,h2,Sem.run_bind,hg,Result.andThen_ok,hb,Sem.run_pure]
 | false =>
  obtain ⟨t0,u,h1⟩ := h1
  have hg : (eqGuard .eql 51 x (.const .nilIface) (.iface t0 u) .nilIface).run Tryz.prog w = .ok () w := by unfold eqGuard;simp
  have h2 : a.eval (.const .nilIface) = .nilIface := rfl
  have hb := err_eq_no t0 u w
  simp only [execOp,h1,h2,Sem.run_bind,hg,Result.andThen_ok,hb,Sem.run_pure]
theorem ym (xs : List (List UInt8)) (v : List UInt8) : Fn CC 52 [strsV xs,IV.str v] (IV.int (idxP (fun y => decide (v = y)) xs)) := by
 refine Fn.of_wp _ Tryz.func52 rfl (by kernel_rfl) Tryz.ntmps52 rfl ?_
 intro F hD hG
 refine WP.len 0 rfl (fun hl1 => ?_)
 (refine zR ?_;refine sA ?_;refine zN ?_)
 (refine zR ?_;(iterate 3 refine sA ?_);refine zN ?_)
 refine zB ?_
 refine WP.loop (fun k : Nat => ⟨[(8,.im (IV.int k)),(7,.im (IV.int xs.length)),(0,.im (strsV xs)),(1,.im (IV.str v))],[],0⟩) (fun k => k ≤ xs.length ∧ ∀ y ∈ xs.take k,(decide (v = y)) = false) (fun k => xs.length - k) 0 ⟨Nat.zero_le _,by simp⟩ (Shift.sub [] rfl SubE.a SubH.nil) ?_
 rintro k ⟨hk,he⟩
 (refine zR ?_;refine sA ?_;refine zN ?_)
 refine zC (fun h => ?_) (fun h => ?_)
 ·refine zS ?_
  have hlt : k < xs.length := by simpa using h
  obtain ⟨x,hx⟩ := oc hlt
  refine zB ?_
  (refine zR ?_;(iterate 2 refine sA ?_);refine zN ?_)
  (refine zR ?_;(iterate 5 refine sA ?_);refine ALK.n (oa (a := v) (b := x) (eB rfl) (eB rfl) rfl) rfl ?_;refine zN ?_)
  refine zC (fun h => ?_) (fun h => ?_)
  ·(refine zR ?_;(iterate 2 refine sA ?_);refine zN ?_)
   have hr : idxP (fun y => decide (v = y)) xs = k := idxP_at he hx (by simpa using h)
   exact zT Tryz.results52
  refine zS ?_
  (refine zR ?_;(iterate 2 refine sA ?_);refine zN ?_)
  show ∃ _,_ ∧ _ ∧ _
  exact ⟨k + 1,⟨by omega,v8 he hx (by simpa using h)⟩,by omega,(Shift.sub [] rfl SubE.a SubH.nil)⟩
 ·refine zE ?_
  (refine zR ?_;refine sA ?_;refine zN ?_)
  have hr : idxP (fun y => decide (v = y)) xs = -1 := qH (by rw [List.take_of_length_le (by simp at h;omega)] at he;exact he)
  exact zT Tryz.results52
def chR (e : Int) : Chain := [{ v := .iface 104 (.agg #[.int .i64 e]),recovered := false }]
theorem oI (e : Int) : Fn CC 49 [IV.bool true,IV.int e] (IV.tup []) := by
 refine Fn.of_wp _ Tryz.func49 rfl (by kernel_rfl) Tryz.ntmps49 rfl ?_
 intro F hD hG
 (refine zR ?_;(iterate 2 refine sA ?_);refine zN ?_)
 refine zC (fun h => ?_) (fun h => ?_)
 ·cases h
 ·(repeat apply WP.seq)
  refine WP.skip ?_
  exact RetOk.tup (rs := []) (ss := []) Tryz.results49 rfl .nil
theorem qm (e : Int) : FnP (chR e) CC 49 0 [.im (IV.bool false),.im (IV.int e)] [] [] 0 [] := by
 refine FnP.of_wp _ [] Tryz.func49 rfl (by kernel_rfl) Tryz.ntmps49 rfl rfl rfl rfl rfl rfl rfl rfl ?_
 intro F vs hD hvs
 obtain ⟨v0,v1,rfl⟩ := len2 hvs
 show WP _ _ _ _ _ ⟨[(0,.im (IV.bool false)),(1,.im (IV.int e))],[],0⟩
 (refine zR ?_;(iterate 2 refine sA ?_);refine zN ?_)
 refine zC (fun h => ?_) (fun h => ?_)
 ·((repeat apply WP.seq);apply WP.xreg;refine LX.n (o4 (eB rfl)) rfl ?_;(first | refine LX.n (yC rfl rfl rfl rfl (Pc rfl (eB rfl) Cs.a rfl rfl Parts.nil)) rfl ?_ | refine LX.n (yu rfl rfl rfl rfl rfl (Pc rfl (eB rfl) Cs.a rfl rfl Parts.nil)) rfl ?_);refine LX.n (opn_mkIface (by kernel_rfl) (Ev.agg1 (eB rfl))) rfl ?_;refine LX.p (opp_panic (eB rfl) ⟨_,_,rfl⟩ rfl) ?_)
  exact ⟨rfl,HSb.a,Kept.a⟩
 ·cases h
theorem atN_I {s : List UInt8} (h : atB s = true) : I64 (atN s) := by
 unfold atB at h
 cases hr : Lib.atoiAll s with
 | ok v =>
  have : atN s = v := by unfold atN;rw [hr]
  rw [this]
  exact Lib.atoiAll_bounds hr
 | _ => rw [hr] at h;cases h
theorem num_x {M : Mem} (hM : GlobM M) (s : List UInt8) (hs : s.length ≤ 100000) : FnX CC 53 0 [.im (IV.wth M (IV.str s))] [] ((numS s).map fun n => (.im (IV.int n),[])) 0 [] (chR 1) [] [] := by
 refine FnX.of_wp _ [] [] Tryz.func53 rfl (by kernel_rfl) Tryz.ntmps53 rfl rfl rfl (fun s H' h => by obtain ⟨y,_,e⟩ := Option.map_eq_some_iff.1 h;cases e;rfl) rfl rfl rfl rfl rfl rfl rfl ?_
 intro F vs hD hvs
 obtain ⟨v0,rfl⟩ := len1 hvs
 show WP _ _ _ _ _ ⟨[(0,.im (IV.wth M (IV.str s)))],[],0⟩
 refine WP.shift (Shift.gh 0 rfl (by decide)) ?_
 (refine zR ?_;refine sA ?_;refine zN ?_)
 (refine zR ?_;refine sA ?_;refine ALK.n (o3 (Atoi_fn hM s (by omega)) (Evs.cons (Ev.wth (eB rfl) rfl) Evs.nil)) rfl ?_;(iterate 5 refine sA ?_);refine zN ?_)
 rcases numS_is s with ⟨hok,hn⟩ | ⟨hno,hn⟩
 ·(refine zR ?_;refine sA ?_;refine ALK.n (opn_eqErr (eB rfl)) rfl ?_;refine sA ?_;(iterate 2 refine gA ?_);(iterate 2 refine sA ?_);(iterate 2 refine gA ?_);(iterate 2 refine sA ?_);refine gA ?_;refine ALK.g (fun hb => o3 (Itoa_fn hM (atN s) (atN_I hok.1)) (Evs.cons (Ev.wth (eC rfl hb) rfl) Evs.nil)) rfl rfl rfl ?_;refine gA ?_;refine ALK.g (fun hb => oa (a := digs (atN s)) (b := s) (eC rfl hb) (eC rfl hb) rfl) rfl rfl rfl ?_;refine sA ?_;refine ALK.n (o3 (oI 1) (Evs.cons (Ev.of (eB rfl) (ImOf.im (ILe.bool (by simp [hok])))) (Evs.cons (eB rfl) Evs.nil))) rfl ?_;refine zN ?_)
  (refine zR ?_;(iterate 2 refine sA ?_);refine zN ?_)
  (repeat apply WP.seq)
  refine WP.ret ?_
  exact ⟨_,_,by rw [hn];rfl,RetOkE.one Tryz.results53 ResV.a HSb.a Kept.a⟩
 ·have hI : ∀ hb : (gd true (atB s && decide (atN s > -1000000) && decide (atN s < 1000000))) = true,I64 (atN s) := fun hb => by
   refine atN_I ?_
   cases e : atB s with
   | true => rfl
   | false => rw [e] at hb;cases hb
  have hfal : (atB s && decide (atN s > -1000000) && decide (atN s < 1000000) && (digs (atN s) == s)) = false := by
   rw [Bool.eq_false_iff]
   intro e
   refine hno ?_
   simp only [Bool.and_eq_true,decide_eq_true_eq,beq_iff_eq] at e
   exact ⟨e.1.1.1,by omega,e.1.2,e.2⟩
  ((repeat apply WP.seq);apply WP.xreg;refine LX.n (o4 (eB rfl)) rfl ?_;refine LX.n (opn_eqErr (eB rfl)) rfl ?_;refine LX.n (o4 (eB rfl)) rfl ?_;refine LX.g (fun hb => o4 (eB rfl)) rfl rfl rfl ?_;(first | refine LX.g (fun hb => oC (eC rfl hb) (eB rfl) rfl) rfl rfl rfl ?_ | refine LX.g (fun hb => oB rfl (eC rfl hb) (eB rfl) rfl) rfl rfl rfl ?_);refine LX.n (oU (eB rfl) rfl (fun hb2 => by first | exact hb2 | (rw [hb,hb2];rfl) | simp_all [gd]) rfl) rfl ?_;refine LX.n (o4 (eB rfl)) rfl ?_;refine LX.g (fun hb => o4 (eB rfl)) rfl rfl rfl ?_;(first | refine LX.g (fun hb => oC (eC rfl hb) (eB rfl) rfl) rfl rfl rfl ?_ | refine LX.g (fun hb => oB rfl (eC rfl hb) (eB rfl) rfl) rfl rfl rfl ?_);refine LX.n (oU (eB rfl) rfl (fun hb2 => by first | exact hb2 | (rw [hb,hb2];rfl) | simp_all [gd]) rfl) rfl ?_;refine LX.n (o4 (eB rfl)) rfl ?_;refine LX.g (fun hb => o4 (eB rfl)) rfl rfl rfl ?_;refine LX.g (fun hb => o3 (Itoa_fn hM (atN s) (hI hb)) (Evs.cons (Ev.wth (eC rfl hb) rfl) Evs.nil)) rfl rfl rfl ?_;refine LX.g (fun hb => o4 (eB rfl)) rfl rfl rfl ?_;refine LX.g (fun hb => oa (a := digs (atN s)) (b := s) (eC rfl hb) (eC rfl hb) rfl) rfl rfl rfl ?_;refine LX.n (oU (eB rfl) rfl (fun hb2 => by first | exact hb2 | (rw [hb,hb2];rfl) | simp_all [gd]) rfl) rfl ?_;refine LX.p (og [] (qm 1) (EvsS.cons (Ev.of (eB rfl) (ImOf.im (ILe.bool hfal))) (EvsS.cons (eB rfl) EvsS.nil)) rfl rfl rfl HIn.a) ?_)
  exact ⟨by rw [hn];rfl,rfl,HSb.a,Kept.a⟩
end Go.Proofs.YtjgmbgfcffnanaaGreatDoor
