/- Package desk: what a line defers. A function that defers and turns what the caller owns; what the deferred function leaves behind, put together again. Package desk: line. Package desk: the lines can and store. Package play: On and Play. -/
import Derived.Test.YtjgmbgfcffnanaaGreatDoorZ37
set_option maxRecDepth 100000
set_option maxHeartbeats 4000000
namespace Go.Proofs.YtjgmbgfcffnanaaGreatDoor
open Go.RowKit
theorem as_yes (e : Int) (w : World) : (Instr.typeAssert (.iface 104 (.agg #[.int .i64 e])) 20 104 true).run Tryz.prog w = .ok (.tuple #[.agg #[.int .i64 e],.bool true]) w := by kernel_rfl
theorem as_no (w : World) : (Instr.typeAssert .nilIface 20 104 true).run Tryz.prog w = .ok (.tuple #[.agg #[.int .i64 0],.bool false]) w := by kernel_rfl
theorem any_neq_no (w : World) : (binOp .neq 20 .nilIface .nilIface).run Tryz.prog w = .ok (.bool false) w := by kernel_rfl
theorem opn_assertYes {σ : Env} {d : Option Tmp} {ty : TypeId} {pos : String} {after : Array Edge} {gu : Option (Nat × Bool)} {x : Go.Operand} {e : Int} (hx : Ev σ x (.im (IV.val (.iface 104 (.agg #[.int .i64 e]))))) : OpN CC ⟨d,.typeAssert x 20 104 true,ty,pos,after,gu⟩ σ (.im (IV.tup [IV.agg [IV.int e],IV.bool true])) := OpN.pure fun ρ μ a w hl ha => by
 have h1 := hx.val hl (by simp [Op.operands])
 have h2 := as_yes e w
 refine ⟨.tuple #[.agg #[.int .i64 e],.bool true],by simp only [execOp,h1,Sem.run_bind,h2,Result.andThen_ok,Sem.run_pure],oi.2 ⟨[.agg #[.int .i64 e],.bool true],rfl,.agg #[.int .i64 e],[.bool true],rfl,⟨[.int .i64 e],rfl,⟨.int .i64 e,[],rfl,rfl,rfl⟩,fun u hu => ?_⟩,.bool true,[],rfl,rfl,rfl⟩⟩
 simp only [List.mem_cons,List.not_mem_nil,or_false] at hu
 subst hu;rfl
abbrev lnH (s : List UInt8) : List Ent := [(1,imB 9 [IV.str s])]
theorem line_catch_yes {F : Fx} (hF : F.ro = none) {nt : Nat} {σ : Env} {s : List UInt8} {e : Int} (he0 : 0 ≤ e) (he1 : e ≤ 99) {fr : Nat} (_ : 2 ≤ fr) {μ : Mem} {ρ : Nms} {a : Act} {w : World} {v4 : Value} (hi : Inv F nt ⟨σ,lnH s,fr⟩ μ ρ a w) (h4 : SV.R ρ μ (.off 1 0) v4) :
 CallsD Tryz.prog 42 #[v4] (.panicking (chR e)) w fun e2 u' w' => e2 = .returned (.tuple #[]) ∧ u' = .panicking [{ v := .iface 104 (.agg #[.int .i64 e]),recovered := true }] ∧
  ∃ μ2 ρ2 a2 fr2,Inv { F with D := [] } 18 ⟨[(0,.is v4 (.off 1 0))],lnH (errT e),fr2⟩ μ2 ρ2 a2 w' := by
 refine callsD_of_wpS Tryz.func42 rfl fun c₀ cs hu => ?_
 apply wpS_seq
 apply wpS_region
 simp [wpOpsS,go_sem,recoverD,hu,Tryz.ntmps42,Exit.thenS,chR]
 have ht : (#[v4] ++ ((Array.replicate 17 undef).setIfInBounds 3 (.iface 104 (.agg #[.int .i64 e]))).setIfInBounds 0 (.iface 104 (.agg #[.int .i64 e]))) = #[v4,.iface 104 (.agg #[.int .i64 e]),undef,undef,.iface 104 (.agg #[.int .i64 e]),undef,undef,undef,undef,undef,undef,undef,undef,undef,undef,undef,undef,undef] := rfl
 rw [ht]
 clear ht
 refine wpS_of_wp ?_
 refine (wpIn_wide (n := 9)).1 ?_
 rw [← jB (F := { F with D := [] }) hF]
 have hi' : Inv { F with D := [] } 18 ⟨[(0,.is v4 (.off 1 0)),(1,.im (IV.val (.iface 104 (.agg #[.int .i64 e]))))],lnH s,fr⟩ μ ρ { tmps := #[v4,.iface 104 (.agg #[.int .i64 e]),undef,undef,.iface 104 (.agg #[.int .i64 e]),undef,undef,undef,undef,undef,undef,undef,undef,undef,undef,undef,undef,undef],defers := [] } w := by
  refine ⟨rfl,rfl,fun t s hs => ?_,hi.agr,hi.heap,hi.nms,hi.os,hi.tape,hi.output,hi.hsize,hi.block,hi.le,hi.new,hi.own⟩
  match t,hs with
  | 0,hs => injection hs with hs;subst hs;unfold SV.R;exact ⟨rfl,h4⟩
  | 1,hs => injection hs with hs;subst hs;exact oi.2 rfl
  | _ + 2,hs => cases hs
 have hl := ut he0 he1
 refine wpIn_mono ((?_ : WP CC { F with D := [] } 18 _ (fun e2 z => e2 = .normal ∧ ∃ fr2,z = ⟨[(0,.is v4 (.off 1 0))],lnH (errT e),fr2⟩) ⟨[(0,.is v4 (.off 1 0)),(1,.im (IV.val (.iface 104 (.agg #[.int .i64 e]))))],lnH s,fr⟩) μ ρ _ w hi') ?_
 ·refine WP.shift (Shift.sub (σ' := [(0,.is v4 (.off 1 0)),(1,.im (IV.val (.iface 104 (.agg #[.int .i64 e]))))]) (H' := lnH s) (fr' := 2) [(1,1)] rfl (SubE.cons rfl (SLe.is (SLe.off rfl rfl)) (SubE.cons rfl (SLe.im ILe.refl) SubE.nil)) (SubH.cons rfl rfl (ObLe.blk SLes.a) SubH.nil)) ?_
  (refine zR ?_;refine sI ?_;refine ALK.n (opn_assertYes (eB rfl)) rfl ?_;(iterate 6 refine sI ?_);refine zN ?_)
  (refine zR ?_;refine sI ?_;refine zN ?_)
  refine zC (fun h => ?_) (fun h => ?_)
  ·refine WP.post ?_
   (refine zR ?_;refine fI 0 ?_;refine sI ?_;refine ALK.n (o3 (yH e he0 he1) (Evs.cons Ev.a Evs.nil)) rfl ?_;refine ALK.n (ol (a := sError) (eB rfl) (eB rfl) (by show 6 + _ ≤ _;omega)) rfl ?_;refine sI ?_;refine zN ?_)
   exact ⟨_,Shift.sub [(1,1)] rfl (SubE.cons rfl (SLe.is (SLe.off rfl rfl)) SubE.nil) (SubH.cons rfl rfl (ObLe.blk SLes.a) SubH.nil),rfl,3,rfl⟩
  ·cases h
 ·rintro e2 a' w' ⟨y,μ',ρ',⟨rfl,fr2,rfl⟩,hy⟩
  exact ⟨hy.defers,_,rfl,.tuple #[],results_none rfl _ _ _,rfl,rfl,μ',ρ',a',fr2,hy⟩
theorem opn_assertNo {σ : Env} {d : Option Tmp} {ty : TypeId} {pos : String} {after : Array Edge} {gu : Option (Nat × Bool)} {x : Go.Operand} (hx : Ev σ x (.im (IV.val .nilIface))) : OpN CC ⟨d,.typeAssert x 20 104 true,ty,pos,after,gu⟩ σ (.im (IV.tup [IV.agg [IV.int 0],IV.bool false])) := OpN.pure fun ρ μ a w hl ha => by
 have h1 := hx.val hl (by simp [Op.operands])
 have h2 := as_no w
 refine ⟨.tuple #[.agg #[.int .i64 0],.bool false],by simp only [execOp,h1,Sem.run_bind,h2,Result.andThen_ok,Sem.run_pure],oi.2 ⟨[.agg #[.int .i64 0],.bool false],rfl,.agg #[.int .i64 0],[.bool false],rfl,⟨[.int .i64 0],rfl,⟨.int .i64 0,[],rfl,rfl,rfl⟩,fun u hu => ?_⟩,.bool false,[],rfl,rfl,rfl⟩⟩
 simp only [List.mem_cons,List.not_mem_nil,or_false] at hu
 subst hu;rfl
theorem opn_neqNil {σ : Env} {d : Option Tmp} {ty : TypeId} {pos : String} {after : Array Edge} {gu : Option (Nat × Bool)} {t' : TypeId} {x : Go.Operand} (hx : Ev σ x (.im (IV.val .nilIface))) : OpN CC ⟨d,.binOp .neq 20 x (.const .nilIface) t',ty,pos,after,gu⟩ σ (.im (IV.bool false)) := OpN.pure fun ρ μ a w hl ha => by
 have h1 := hx.val hl (by simp [Op.operands])
 have hg : (eqGuard .neq 20 x (.const .nilIface) .nilIface .nilIface).run Tryz.prog w = .ok () w := by unfold eqGuard;simp
 have h2 : a.eval (.const .nilIface) = .nilIface := rfl
 have hb := any_neq_no w
 exact ⟨.bool false,by simp only [execOp,h1,h2,Sem.run_bind,hg,Result.andThen_ok,hb,Sem.run_pure],oi.2 rfl⟩
theorem line_catch_no {F : Fx} (hF : F.ro = none) {nt : Nat} {σ : Env} {s : List UInt8} {fr : Nat} {μ : Mem} {ρ : Nms} {a : Act} {w : World} {v4 : Value} (hi : Inv F nt ⟨σ,lnH s,fr⟩ μ ρ a w) (h4 : SV.R ρ μ (.off 1 0) v4) :
 CallsD Tryz.prog 42 #[v4] .returning w fun e2 u' w' => e2 = .returned (.tuple #[]) ∧ u' = .returning ∧
  ∃ μ2 ρ2 a2 fr2,Inv { F with D := [] } 18 ⟨[(0,.is v4 (.off 1 0))],lnH s,fr2⟩ μ2 ρ2 a2 w' := by
 refine callsD_of_wpS Tryz.func42 rfl fun c₀ cs hu => ?_
 apply wpS_seq
 apply wpS_region
 simp [wpOpsS,go_sem,recoverD,hu,Tryz.ntmps42,Exit.thenS]
 have ht : (#[v4] ++ ((Array.replicate 17 undef).setIfInBounds 3 .nilIface).setIfInBounds 0 .nilIface) = #[v4,.nilIface,undef,undef,.nilIface,undef,undef,undef,undef,undef,undef,undef,undef,undef,undef,undef,undef,undef] := rfl
 rw [ht]
 clear ht
 refine wpS_of_wp ?_
 refine (wpIn_wide (n := 9)).1 ?_
 rw [← jB (F := { F with D := [] }) hF]
 have hi' : Inv { F with D := [] } 18 ⟨[(0,.is v4 (.off 1 0)),(1,.im (IV.val .nilIface))],lnH s,fr⟩ μ ρ { tmps := #[v4,.nilIface,undef,undef,.nilIface,undef,undef,undef,undef,undef,undef,undef,undef,undef,undef,undef,undef,undef],defers := [] } w := by
  refine ⟨rfl,rfl,fun t s hs => ?_,hi.agr,hi.heap,hi.nms,hi.os,hi.tape,hi.output,hi.hsize,hi.block,hi.le,hi.new,hi.own⟩
  match t,hs with
  | 0,hs => injection hs with hs;subst hs;unfold SV.R;exact ⟨rfl,h4⟩
  | 1,hs => injection hs with hs;subst hs;exact oi.2 rfl
  | _ + 2,hs => cases hs
 refine wpIn_mono ((?_ : WP CC { F with D := [] } 18 _ (fun e2 z => e2 = .normal ∧ ∃ fr2,z = ⟨[(0,.is v4 (.off 1 0))],lnH s,fr2⟩) ⟨[(0,.is v4 (.off 1 0)),(1,.im (IV.val .nilIface))],lnH s,fr⟩) μ ρ _ w hi') ?_
 ·refine WP.shift (Shift.sub (σ' := [(0,.is v4 (.off 1 0)),(1,.im (IV.val .nilIface))]) (H' := lnH s) (fr' := 2) [(1,1)] rfl (SubE.cons rfl (SLe.is (SLe.off rfl rfl)) (SubE.cons rfl (SLe.im ILe.refl) SubE.nil)) (SubH.cons rfl rfl (ObLe.blk SLes.a) SubH.nil)) ?_
  (refine zR ?_;refine sI ?_;refine ALK.n (opn_assertNo (eB rfl)) rfl ?_;(iterate 6 refine sI ?_);refine zN ?_)
  (refine zR ?_;refine sI ?_;refine zN ?_)
  refine zC (fun h => ?_) (fun h => ?_)
  ·cases h
  ·(refine zR ?_;refine sI ?_;refine ALK.n (opn_neqNil (eB rfl)) rfl ?_;refine zN ?_)
   refine zC (fun h => ?_) (fun h => ?_)
   ·cases h
   ·refine WP.post ?_
    refine WP.skip ?_
    exact ⟨_,Shift.sub [(1,1)] rfl (SubE.cons rfl (SLe.is (SLe.off rfl rfl)) SubE.nil) (SubH.cons rfl rfl (ObLe.blk SLes.a) SubH.nil),rfl,3,rfl⟩
 ·rintro e2 a' w' ⟨y,μ',ρ',⟨rfl,fr2,rfl⟩,hy⟩
  refine ⟨hy.defers,.returning,by rw [← hu],.tuple #[],results_none rfl _ _ _,rfl,rfl,μ',ρ',a',fr2,hy⟩
theorem FnE.of_defer {C : Cfg} {f : FuncId} {fn : Func} {c : Code} {fr fr' : Nat} {args : List SV} {H H' : List Ent} {s : SV} {pn : List Nat} (nt : Nat) (pt : List (Nat × Nat)) (hf : C.P.funcs[f]? = some fn) (hb : fn.body = some c) (hname : (fn.name == "runtime.NumGoroutine") = false) (hnt : fn.ntmps = nt) (hn : Nat.ble args.length nt = true)
 (h1 : SV.nms (ltB fr) args = true) (h2 : Go.Proofs.YtjgmbgfcffnanaaGreatDoor.hOk (ltB fr) H = true) (h3 : SV.nm (pnB pn fr fr') s = true) (h4 : Go.Proofs.YtjgmbgfcffnanaaGreatDoor.hOk (pnB pn fr fr') H' = true) (h5 : pn.all (ltB fr) = true) (h6 : Nat.ble fr fr' = true) (h7 : pinOk args H H' pt = true) (h8 : pn = pt.map (·.1))
 (h : ∀ (F : Fx) (vs : List Value) (ρ : Nms) (a : Act) (w : World) (R : Ending → World → Prop),F.D = [] → F.ro = none → vs.length = args.length →
  (∀ (y : St) (μ' : Mem) (ρ' : Nms) (a' : Act) (w' : World),Inv { F with D := [] } nt y μ' ρ' a' w' → RetOkE C { F with D := [] } nt fn args vs s H' pt y → ∃ v,(results fn a'.tmps).run C.P w' = .ok v w' ∧ R (.returned v) w') →
  Inv F nt ⟨envS 0 args vs,H,fr⟩ F.μ0 ρ a w → c.wpIn F.fen 9 C.P (bodyPostD C.P fn R) a w) : FnE C f fr args H s H' fr' pn := by
 refine ⟨⟨fn,hf,by rw [hb];rfl,hname⟩,h1,h2,h3,h4,h5,h6,fun ρ μ w vs hvs ha hH hnm => ?_⟩
 have hlen := hvs.length
 refine calls_of_wp_defers hf hb ((wpIn_wide (n := 9)).1 ?_)
 have hle := Nat.le_of_ble_eq_true hn
 have hi : Inv ⟨w,μ,fun g => ∃ e ∈ H,eb ρ e g,[],none⟩ nt ⟨envS 0 args vs,H,fr⟩ μ ρ { tmps := vs.toArray ++ Array.replicate (fn.ntmps - vs.toArray.size) undef,defers := [] } w := by
  refine ⟨by simp;omega,rfl,fun t s hs => ?_,ha,hH,hnm,rfl,rfl,rfl,Nat.le_refl _,fun _ _ _ => rfl,Mem.le.refl _,fun b hb => .inl hb,fun e he g hg => .inl ⟨e,he,hg⟩⟩
  obtain ⟨j,v,k1,k2,k3⟩ := envS_at hvs hs
  rw [Nat.zero_add] at k1
  subst k1
  have hj : t < vs.length := (List.getElem?_eq_some_iff.1 k2).1
  have : (vs.toArray ++ Array.replicate (fn.ntmps - vs.toArray.size) undef).getD t undef = v := by
   rw [Array.getD_eq_getD_getElem?,Array.getElem?_append_left (by simpa using hj)]
   simp [k2]
  rw [this];exact k3
 refine h ⟨w,μ,fun g => ∃ e ∈ H,eb ρ e g,[],none⟩ vs ρ _ w _ rfl rfl hlen (fun y μ' ρ' a' w' hy hr => ?_) hi
 obtain ⟨v,k1,k2,k3,k4⟩ := hr μ' ρ' a' w' hy
 refine ⟨v,k1,v,μ',ρ',rfl,k2,hy.heap.sub k3,fun i hi => ?_,⟨hy.os,hy.tape,hy.output,hy.hsize,fun k hk hno => hy.block k hk (fun ⟨e,he,hg⟩ => hno e he hg),hy.le,hy.new,hy.agr,fun e he g hg => hy.own e (k3 e he) g hg⟩⟩
 rw [h8,List.mem_map] at hi
 obtain ⟨p,hp,rfl⟩ := hi
 have k5 := List.all_eq_true.1 h7 p hp
 obtain ⟨s1,v1,k6,k7,k8⟩ := k4 p hp
 simp only [k6,Bool.or_eq_true,Bool.and_eq_true] at k5
 obtain ⟨v1',k7',k9⟩ := hvs.get k6
 rw [k7] at k7'
 injection k7' with k7'
 subst k7'
 rcases k5 with k5 | ⟨⟨k5,k6⟩,k7⟩
 ·exact SV.pinS_at hy.le k5 k9 k8
 ·obtain ⟨g,k8,k9⟩ := SV.pinW_at hy.le k5 k9 k8
  obtain ⟨g1,k10⟩ := qY k6 hH
  obtain ⟨g2,k11⟩ := qY k7 (hy.heap.sub k3)
  rw [k10] at k8
  rw [k11] at k9
  simp only [Option.bind_some,blk,Option.some.injEq] at k8 k9
  rw [k10,k11,k8,k9]
def Fx.one (_ : Fx) (μ : Mem) (ρ : Nms) (w : World) (e : Ent) : Fx := ⟨w,μ,fun g => eb ρ e g,[],none⟩
section
variable {F : Fx} {nt : Nat} {σ : Env} {t0 t1 : Nat} {c0 c1 c2 : List IV} {fr : Nat} {μ μ2 : Mem} {ρ ρ2 : Nms} {a a2 a3 : Act} {w w2 : World}
theorem Inv.lend (hi : Inv F nt ⟨σ,[(0,imB t0 c0),(1,imB t1 c1)],fr⟩ μ ρ a w) : Inv (F.one μ ρ w (1,imB t1 c1)) nt ⟨σ,[(1,imB t1 c1)],fr⟩ μ ρ { a with defers := [] } w :=
 ⟨hi.size,rfl,hi.env,hi.agr,hi.heap.sub fun e he => by
  rw [List.mem_singleton] at he;subst he;simp,hi.nms,rfl,rfl,rfl,Nat.le_refl _,fun _ _ _ => rfl,Mem.le.refl _,fun b hb => .inl hb,fun e he g hg => .inl (by
  rw [List.mem_singleton] at he;subst he;exact hg)⟩
theorem Inv.lent {nt2 nt3 fr2 : Nat} {σ2 σ3 : Env} (hi : Inv F nt ⟨σ,[(0,imB t0 c0),(1,imB t1 c1)],fr⟩ μ ρ a w) (h : Inv { F.one μ ρ w (1,imB t1 c1) with D := [] } nt2 ⟨σ2,[(1,imB t1 c2)],fr2⟩ μ2 ρ2 a2 w2)
 (hsz : a3.tmps.size = nt3) (hd : a3.defers = []) (he : EnvOk (fun i => if i = 0 then ρ 0 else ρ2 i) μ2 σ3 a3.tmps) :
 Inv { F with D := [] } nt3 ⟨σ3,[(0,imB t0 c0),(1,imB t1 c2)],fr2 + 1⟩ μ2 (fun i => if i = 0 then ρ 0 else ρ2 i) a3 w2 := by
 have m0 : ((0,imB t0 c0) : Ent) ∈ [(0,imB t0 c0),(1,imB t1 c1)] := by simp
 have m1 : ((1,imB t1 c1) : Ent) ∈ [(0,imB t0 c0),(1,imB t1 c1)] := by simp
 have k0 := hi.heap.1 _ m0
 have k1 := h.heap.1 (1,imB t1 c2) (by simp)
 have e0 : ∀ g,eb (fun i => if i = 0 then ρ 0 else ρ2 i) (0,imB t0 c0) g ↔ eb ρ (0,imB t0 c0) g := fun g => by
  rw [uq rfl,uq rfl];simp
 have e1 : ∀ g,eb (fun i => if i = 0 then ρ 0 else ρ2 i) (1,imB t1 c2) g ↔ eb ρ2 (1,imB t1 c2) g := fun g => by
  rw [uq rfl,uq rfl];simp
 have hno : ∀ g,eb ρ (0,imB t0 c0) g → ¬ eb ρ (1,imB t1 c1) g := fun g h0 h1 => hi.heap.2 _ m0 _ m1 (by simp) g h0 h1
 have same : ∀ g,eb ρ (0,imB t0 c0) g → w2.heap[g]? = w.heap[g]? ∧ μ2 g = none := fun g hg => by
  have hl := k0.lt hg
  refine ⟨h.block g hl.1 (hno g hg),?_⟩
  cases e : μ2 g with
  | none => rfl
  | some cs =>
   rcases h.new g (by rw [e];simp) with h1 | h1 | h1
   ·exact absurd hl.2 h1
   ·have h1 : w.heap.size ≤ g := h1;omega
   ·exact absurd h1 (hno g hg)
 have ow : ∀ g,eb ρ2 (1,imB t1 c2) g → eb ρ (1,imB t1 c1) g ∨ w.heap.size ≤ g := fun g hg => h.own (1,imB t1 c2) (by simp) g hg
 refine ⟨hsz,hd,he,h.agr,⟨fun e hm => ?_,fun e hm e' hm' hne g hg hg' => ?_⟩,fun i hi2 => ?_,h.os.trans hi.os,h.tape.trans hi.tape,h.output.trans hi.output,Nat.le_trans hi.hsize h.hsize,fun k hk hG => ?_,hi.le.trans h.le,fun b hb => ?_,fun e hm g hg => ?_⟩
 ·simp only [List.mem_cons,List.not_mem_nil,or_false] at hm
  rcases hm with rfl | rfl
  ·obtain ⟨g,us,q1,q2,q3,q4,q5⟩ := k0.keep (ρ' := ρ) (fun _ _ h => h) h.le same
   exact ⟨g,us,by simpa using q1,q2,SV.Rs.im.2 (SV.Rs.im.1 q3),q4,q5⟩
  ·obtain ⟨g,us,q1,q2,q3,q4,q5⟩ := k1
   exact ⟨g,us,by simpa using q1,q2,SV.Rs.im.2 (SV.Rs.im.1 q3),q4,q5⟩
 ·have key : ∀ g,eb ρ (0,imB t0 c0) g → ¬ eb ρ2 (1,imB t1 c2) g := fun g h0 h1 => by
   rcases ow g h1 with h2 | h2
   ·exact hno g h0 h2
   ·have := (k0.lt h0).1;omega
  simp only [List.mem_cons,List.not_mem_nil,or_false] at hm hm'
  rcases hm with rfl | rfl <;> rcases hm' with rfl | rfl
  ·exact hne rfl
  ·exact key g ((e0 g).1 hg) ((e1 g).1 hg')
  ·exact key g ((e0 g).1 hg') ((e1 g).1 hg)
  ·exact hne rfl
 ·by_cases h0 : i = 0
  ·subst h0;show 0 < fr2 + 1;omega
  ·rw [if_neg h0] at hi2
   have := h.nms i hi2
   show i < fr2 + 1
   have : i < fr2 := this
   omega
 ·have h1 : ¬ eb ρ (1,imB t1 c1) k := fun h2 => by
   rcases hi.own _ m1 k h2 with h3 | h3
   ·exact hG h3
   ·exact absurd hk (Nat.not_lt.2 h3)
  exact (h.block k (Nat.lt_of_lt_of_le hk hi.hsize) h1).trans (hi.block k hk hG)
 ·rcases h.new b hb with h1 | h1 | h1
  ·exact hi.new b h1
  ·exact .inr (.inl (Nat.le_trans hi.hsize h1))
  ·exact (hi.own _ m1 b h1).elim (fun h2 => .inr (.inr h2)) (fun h2 => .inr (.inl h2))
 ·simp only [List.mem_cons,List.not_mem_nil,or_false] at hm
  rcases hm with rfl | rfl
  ·exact hi.own _ m0 g ((e0 g).1 hg)
  ·rcases ow g ((e1 g).1 hg) with h1 | h1
   ·exact hi.own _ m1 g h1
   ·exact .inr (Nat.le_trans hi.hsize h1)
end
def LineQ (p : Plan) (d : Dk) (l : List UInt8) (v0 v4 : Value) : Exit → St → Prop
 | .ret,y => lk y.σ 0 = some (.is v0 (.off 0 0)) ∧ lk y.σ 4 = some (.is v4 (.off 1 0)) ∧ hget y.H 0 = some (imB 40 (cDk p (lineS p d l).2)) ∧ hget y.H 1 = some (imB 9 [IV.str (lineS p d l).1])
 | .panic c,y => ∃ e,c = chR e ∧ (0 ≤ e ∧ e ≤ 99) ∧ lineS p d l = (errT e,d) ∧ lk y.σ 0 = some (.is v0 (.off 0 0)) ∧ lk y.σ 4 = some (.is v4 (.off 1 0)) ∧ hget y.H 0 = some (imB 40 (cDk p d)) ∧ hget y.H 1 = some (imB 9 [IV.str []])
 | _,_ => False
abbrev tabB (p : Plan) (d : Dk) (s : List UInt8) : List Ent := [(0,imB 40 (cDk p d)),(1,imB 9 [IV.str s])]
def LineB (M : Mem) (p : Plan) (d : Dk) (l : List UInt8) : Prop := ∀ c0 c1 c,Tryz.f13.body = some (.seq c0 (.seq c1 c)) → ∀ (F : Fx) (v0 v4 : Value),WP CC F 136 c (LineQ p d l v0 v4) ⟨[(4,.is v4 (.off 1 0)),(0,.is v0 (.off 0 0)),(1,.im (IV.wth M (IV.str l)))],[(1,imB 9 [IV.str []]),(0,imB 40 (cDk p d))],2⟩
theorem line_fn {M : Mem} (p : Plan) (d : Dk) (l : List UInt8) (hbody : LineB M p d l) :
 FnE CC 13 1 [.off 0 0,.im (IV.wth M (IV.str l))] (tabH 40 p d) (.im (IV.str (lineS p d l).1)) (tabH 40 p (lineS p d l).2) 1 [0] := by
 refine FnE.of_defer _ [(0,0)] Tryz.func13 rfl (by kernel_rfl) Tryz.ntmps13 rfl rfl rfl rfl rfl rfl rfl rfl rfl ?_
 intro F vs ρ a w R hD hro hvs key hi
 obtain ⟨v0,v1,rfl⟩ := len2 hvs
 refine wpIn_seq (wpIn_mono ((?_ : WP CC F 136 _ (fun e y => e = .normal ∧ y = ⟨[(4,.off 1 0),(0,.is v0 (.off 0 0)),(1,.im (IV.wth M (IV.str l)))],[(1,imB 9 [IV.str []]),(0,imB 40 (cDk p d))],2⟩) ⟨[(0,.is v0 (.off 0 0)),(1,.im (IV.wth M (IV.str l)))],tabH 40 p d,1⟩) _ _ _ w hi) ?_)
 ·(refine zR ?_;refine sI ?_;refine zN ?_)
  exact ⟨rfl,rfl⟩
 rintro e a1 w1 ⟨y,μ1,ρ1,⟨rfl,rfl⟩,hi1⟩
 show Code.wpIn _ _ _ (.seq _ _) _ _ _
 refine wpIn_seq (wpIn_region_lit ?_)
 unfold wpListIn
 rw [if_pos (by rfl)]
 refine jG (K := fun a' w' => ∃ μ' ρ',Inv F 136 ⟨[(16,.fn 42 [.off 1 0]),(4,.off 1 0),(0,.is v0 (.off 0 0)),(1,.im (IV.wth M (IV.str l)))],[(1,imB 9 [IV.str []]),(0,imB 40 (cDk p d))],2⟩ μ' ρ' a' w') (fun a' w' ⟨_,_,h3⟩ => h3.defers.trans hi1.defers.symm) (fun a3 w3 ⟨μ3,ρ3,hi3⟩ => ?_) ?_
 rotate_left
 ·refine Step1.wp (ops := #[]) (k := 0) (s := .fn 42 [.off 1 0]) (Step1.n (.inl rfl) rfl ?_) rfl hi1
  exact oN (l := [.off 1 0]) EvsS.a
 unfold wpListIn
 rw [if_pos (by rfl)]
 refine ⟨fun _ _ => trivial,?_⟩
 have h9 := hi3.env 16 _ rfl
 unfold SV.R at h9
 obtain ⟨vs,h9,h10⟩ := h9
 unfold SV.Rs at h10
 obtain ⟨v4,vs2,rfl,k4,h10⟩ := h10
 unfold SV.Rs at h10
 subst h10
 show Oper.uponIn _ _ _ _ _ _ _ ((Oper.semAt F.ro _ _).run _ _)
 rw [hro,Oper.semAt_none]
 have hrun : ∀ o : Oper,o.op = Op.defer { callee := Callee.value (Go.Operand.tmp 16),args := #[],argTypes := #[] } → (execOp a3.eval o).run Tryz.prog w3 = .ok (.defer { target := .fn (.func 42) #[v4],args := #[] }) w3 := by
  intro o ho
  simp [execOp,ho,resolve,Act.eval,h9,Deferred.ofValue]
 rw [hrun _ rfl,Oper.uponIn_defer]
 obtain ⟨dd,hd⟩ : ∃ d : Deferred,d = { target := .fn (.func 42) #[v4],args := #[] } := ⟨_,rfl⟩
 rw [← hd]
 have e4 : a3.tmps.getD 4 undef = v4 := off_uniq (hi3.env 4 _ rfl) k4
 have hi4 : Inv { F with D := [dd] } 136 ⟨[(4,.is v4 (.off 1 0)),(0,.is v0 (.off 0 0)),(1,.im (IV.wth M (IV.str l)))],[(1,imB 9 [IV.str []]),(0,imB 40 (cDk p d))],2⟩ μ3 ρ3 { tmps := a3.tmps,defers := dd :: a3.defers } w3 := by
  have h := hi3.defer dd
  refine ⟨h.size,by show dd :: a3.defers = _;rw [hi3.defers,hD],fun t s hs => ?_,h.agr,h.heap,h.nms,h.os,h.tape,h.output,h.hsize,h.block,h.le,h.new,h.own⟩
  match t,hs with
  | 0,hs => injection hs with hs;subst hs;exact hi3.env 0 _ rfl
  | 1,hs => injection hs with hs;subst hs;exact hi3.env 1 _ rfl
  | 2,hs => cases hs
  | 3,hs => cases hs
  | 4,hs => injection hs with hs;subst hs;unfold SV.R;exact ⟨e4,by show SV.R ρ3 μ3 _ (a3.tmps.getD 4 undef);rw [e4];exact k4⟩
  | _ + 5,hs => cases hs
 show Code.wpIn _ _ _ _ _ _ _
 refine wpIn_mono (hbody _ _ _ rfl { F with D := [dd] } v0 v4 μ3 ρ3 _ w3 hi4) ?_
 rintro e a4 w4 ⟨y,μ4,ρ4,hq,hi5⟩
 subst hd
 have fin : ∀ {s : List UInt8} {dk : Dk} {F' : Fx} {a' : Act} {w' : World} {s' : List UInt8} {fr2 : Nat} {μ5 μ7 : Mem} {ρ5 ρ7 : Nms} {a7 : Act},
  Inv { F with D := [{ target := .fn (.func 42) #[v4],args := #[] }] } 136 ⟨[(0,.is v0 (.off 0 0)),(4,.is v4 (.off 1 0))],tabB p dk s,2⟩ μ5 ρ5 a4 w4 →
  Inv { (Fx.one { F with D := [{ target := .fn (.func 42) #[v4],args := #[] }] } μ5 ρ5 w4 (1,imB 9 [IV.str s])) with D := [] } 18 ⟨[(0,.is v4 (.off 1 0))],lnH s',fr2⟩ μ7 ρ7 a7 w' →
  (IV.str (lineS p d l).1 = IV.str s' ∧ (lineS p d l).2 = dk) → ∃ v,(results Tryz.f13 a4.tmps).run Tryz.prog w' = .ok v w' ∧ R (.returned v) w' := by
  intro s dk F' a' w' s' fr2 μ5 μ7 ρ5 ρ7 a7 hi6 hi7 hr
  have m0 := hi6.env 0 _ rfl
  have m4 := hi6.env 4 _ rfl
  have q4 := hi7.env 0 _ rfl
  unfold SV.R at m0 m4 q4
  have h8 := hi6.lent hi7 (a3 := { tmps := a4.tmps,defers := [] }) (nt3 := 136) (σ3 := [(0,.is v0 (.off 0 0)),(4,.off 1 0)]) hi5.size rfl (fun t s hs => by
   match t,hs with
   | 0,hs =>
    injection hs with hs;subst hs
    unfold SV.R
    refine ⟨m0.1,?_⟩
    have := m0.2
    unfold SV.R at this ⊢
    obtain ⟨g,h1,h2⟩ := this
    exact ⟨g,by simpa using h1,h2⟩
   | 1,hs => cases hs
   | 2,hs => cases hs
   | 3,hs => cases hs
   | 4,hs =>
    injection hs with hs;subst hs
    show SV.R _ _ _ (a4.tmps.getD 4 undef)
    rw [m4.1]
    have := q4.2
    rw [q4.1] at this
    unfold SV.R at this ⊢
    obtain ⟨g,h1,h2⟩ := this
    exact ⟨g,by simpa using h1,h2⟩
   | _ + 5,hs => cases hs)
  refine key _ _ _ { tmps := a4.tmps,defers := [] } _ h8 ?_
  rw [hr.1,hr.2]
  exact RetOkE.one Tryz.results13 ResV.a HSb.a Kept.a
 cases e with
 | ret =>
  obtain ⟨l0,l4,g0,g1⟩ := hq
  show Leaves _ _ _ _ a4.defers _ _
  rw [hi5.defers]
  obtain ⟨μ5,ρ5,hi6⟩ := (Shift.sub [(0,0),(1,1)] rfl (SubE.cons l0 (SLe.is (SLe.off rfl rfl)) (SubE.cons l4 (SLe.is (SLe.off rfl rfl)) SubE.nil)) (SubH.cons rfl g0 (ObLe.blk (SLes.ims _)) (SubH.cons rfl g1 (ObLe.blk (SLes.ims _)) SubH.nil)) : Shift { F with D := [{ target := .fn (.func 42) #[v4],args := #[] }] } 136 y ⟨[(0,.is v0 (.off 0 0)),(4,.is v4 (.off 1 0))],tabB p (lineS p d l).2 (lineS p d l).1,2⟩) _ _ _ _ hi5
  have m4 := hi6.env 4 _ rfl
  unfold SV.R at m4
  refine leaves_cons (f := 42) (args := #[v4]) (by simp) (by simp [go_sem]) ?_
  refine (line_catch_no rfl hi6.lend (by rw [← m4.1];exact m4.2)).mono ?_
  rintro e u' w' ⟨rfl,rfl,μ7,ρ7,a7,fr2,hi7⟩
  exact fin (F' := F) (a' := a4) hi6 hi7 ⟨rfl,rfl⟩
 | panic c =>
  obtain ⟨e,rfl,⟨e0,e1⟩,hr,l0,l4,g0,g1⟩ := hq
  show Leaves _ _ _ _ a4.defers _ _
  rw [hi5.defers]
  obtain ⟨μ5,ρ5,hi6⟩ := (Shift.sub [(0,0),(1,1)] rfl (SubE.cons l0 (SLe.is (SLe.off rfl rfl)) (SubE.cons l4 (SLe.is (SLe.off rfl rfl)) SubE.nil)) (SubH.cons rfl g0 (ObLe.blk (SLes.ims _)) (SubH.cons rfl g1 (ObLe.blk (SLes.ims _)) SubH.nil)) : Shift { F with D := [{ target := .fn (.func 42) #[v4],args := #[] }] } 136 y ⟨[(0,.is v0 (.off 0 0)),(4,.is v4 (.off 1 0))],tabB p d [],2⟩) _ _ _ _ hi5
  have m4 := hi6.env 4 _ rfl
  unfold SV.R at m4
  refine leaves_cons (f := 42) (args := #[v4]) (by simp) (by simp [go_sem]) ?_
  refine (line_catch_yes rfl e0 e1 (Nat.le_refl 2) hi6.lend (by rw [← m4.1];exact m4.2)).mono ?_
  rintro e' u' w' ⟨rfl,rfl,μ7,ρ7,a7,fr2,hi7⟩
  show Leaves _ _ _ _ [] (settle _) _
  exact fin (F' := F) (a' := a4) hi6 hi7 ⟨by rw [hr],by rw [hr]⟩
 | _ => exact hq.elim
theorem line_can {M : Mem} (p : Plan) (d : Dk) (g : Good p d) (hB : TxsB p.txns) : LineB M p d sCan := by
 have hr : lineS p d sCan = (if overB p d.s then sOver else canT (canL p d.s),d) := if_pos rfl
 intro c0 c1 c hc F v0 v4
 have h1 : some (Code.seq _ (Code.seq _ _)) = some (Code.seq c0 (Code.seq c1 c)) := hc
 clear hc
 injection h1 with h1
 injection h1 with h0 h1
 clear h0
 injection h1 with h0 h1
 clear h0
 subst h1
 refine WP.shift (Shift.gh 1 rfl (by decide)) ?_
 (refine zR ?_;refine sI ?_;refine zN ?_)
 refine zB ?_
 (refine zR ?_;refine ALK.n (oa (c := true) (eB rfl) (eB rfl) (by decide)) rfl ?_;refine sI ?_;refine zN ?_)
 refine zC (fun h => ?_) (fun h => ?_)
 ·(refine zR ?_;refine sI ?_;refine ALK.e (o5 [0] (can_e p d g hB) EvsS.a rfl rfl rfl HIn.a) rfl rfl ?_;refine sI ?_;refine zN ?_)
  (repeat apply WP.seq)
  refine WP.ret ?_
  exact ⟨rfl,rfl,by rw [hr];rfl,by rw [hr];rfl⟩
 ·cases h
theorem canTo_nextD {l : List Int} {k : Nat} {x : Int} (h : l[k]? = some x) : (l.take (k + 1)).map digs = (l.take k).map digs ++ [digs x] := by
 rw [oM h,List.map_append];rfl
theorem line_store {M : Mem} (hM : GlobM M) (p : Plan) (d : Dk) (g : Good p d) : LineB M p d sStore := by
 have hr : lineS p d sStore = (storeT d.s.store,d) := by unfold lineS;rw [if_neg (by decide),if_pos rfl]
 have hlen : d.s.store.length = 8 := g.v.store
 have hI := g.i.store
 have hj := j1 (Nat.le_of_eq hlen) hI
 unfold storeT at hj
 intro c0 c1 c hc F v0 v4
 have h1 : some (Code.seq _ (Code.seq _ _)) = some (Code.seq c0 (Code.seq c1 c)) := hc
 clear hc
 injection h1 with h1
 injection h1 with h0 h1
 clear h0
 injection h1 with h0 h1
 clear h0
 subst h1
 refine WP.shift (Shift.gh 1 rfl (by decide)) ?_
 (refine zR ?_;refine sI ?_;refine zN ?_)
 refine zB ?_
 (refine zR ?_;refine ALK.n (oa (c := false) (eB rfl) (eB rfl) (by decide)) rfl ?_;refine sI ?_;refine zN ?_)
 refine zC (fun h => ?_) (fun h => ?_)
 ·cases h
 clear h
 (refine zR ?_;refine ALK.n (oa (c := true) (eB rfl) (eB rfl) (by decide)) rfl ?_;refine sI ?_;refine zN ?_)
 refine zC (fun h => ?_) (fun h => ?_)
 ·(refine zR ?_;refine sI ?_;refine zN ?_)
  refine WP.shift (Shift.row0 5 9 1 cStr (fun _ => rfl) rfl) ?_
  (refine zR ?_;(iterate 2 refine sI ?_);refine fI 3 ?_;refine fI 0 ?_;(iterate 3 refine sI ?_);refine zN ?_)
  refine zB ?_
  refine WP.loop (fun k : Nat => ⟨[(30,.im (IV.int k)),(29,.im (IV.int d.s.store.length)),(28,.im (intsV d.s.store)),(5,.row 2 k),(ghT,.im (IV.gh M)),(0,.is v0 (.off 0 0)),(4,.is v4 (.off 1 0))],[(0,imB 40 (cDk p d)),(1,imB 9 [IV.str []]),(2,.row 9 1 cStr ((d.s.store.take k).map digs))],3⟩) (fun k => k ≤ d.s.store.length) (fun k => d.s.store.length - k) 0 (Nat.zero_le _) (Shift.sub [(0,0),(1,1),(2,2)] rfl SubE.a (SubH.cons rfl rfl (ObLe.blk (SLes.ims _)) (SubH.cons rfl rfl (ObLe.blk SLes.a) (SubH.cons rfl rfl (ObLe.row rfl) SubH.nil)))) ?_
  rintro k hk
  (refine zR ?_;refine sI ?_;refine zN ?_)
  refine zC (fun h => ?_) (fun h => ?_)
  ·refine zS ?_
   have hlt : k < d.s.store.length := by simpa using h
   obtain ⟨x,hx⟩ := oc hlt
   have hxI := hI x (List.mem_of_getElem? hx)
   have hnx := canTo_nextD hx
   have hxl : ((d.s.store.take k).map digs).length = k := by rw [List.length_map,List.length_take];omega
   clear h
   refine zB ?_
   (refine zR ?_;(iterate 3 refine sI ?_);refine zN ?_)
   (refine zR ?_;(iterate 2 refine sI ?_);refine ALK.n (o3 (Itoa_fn hM x hxI) (Evs.cons (Ev.wth (eB rfl) rfl) Evs.nil)) rfl ?_;refine ALK.n (o6 rfl rfl rfl rfl rfl rfl (Pc rfl (eB rfl) Cs.a rfl rfl Parts.nil) rfl) rfl ?_;refine ALK.e (o8 (b := 16) [digs x] rfl rfl rfl rfl rfl (eB rfl) (eB rfl) rfl rfl (by rw [hxl];simp;omega) rfl) rfl rfl ?_;refine sI ?_;refine zN ?_)
   (refine zR ?_;(iterate 2 refine sI ?_);refine zN ?_)
   show ∃ _,_ ∧ _ ∧ _
   exact ⟨k + 1,by omega,by omega,Shift.sub [(0,0),(1,1),(2,3)] rfl (SubE.cons rfl SLe.a (SubE.cons rfl SLe.a (SubE.cons rfl SLe.a (SubE.cons rfl (SLe.row rfl (by rw [hxl];rfl)) SubE.a)))) (SubH.cons rfl rfl (ObLe.blk (SLes.ims _)) (SubH.cons rfl rfl (ObLe.blk SLes.a) (SubH.cons rfl rfl (ObLe.row hnx.symm) SubH.nil)))⟩
  ·refine zE ?_
   have hke : k = d.s.store.length := by simp at h;omega
   subst hke
   rw [List.take_length]
   refine WP.shift (Shift.frzRow 5 rfl rfl) ?_
   (refine zR ?_;refine sI ?_;refine ALK.n (o3 (Join_fn (d.s.store.map digs) [32] (by rw [List.length_map];omega) (by omega)) (Evs.cons Ev.a (Evs.cons Ev.a Evs.nil))) rfl ?_;refine sI ?_;refine zN ?_)
   (repeat apply WP.seq)
   refine WP.ret ?_
   exact ⟨rfl,rfl,by rw [hr];rfl,by rw [hr];rfl⟩
 ·cases h
end Go.Proofs.YtjgmbgfcffnanaaGreatDoor
