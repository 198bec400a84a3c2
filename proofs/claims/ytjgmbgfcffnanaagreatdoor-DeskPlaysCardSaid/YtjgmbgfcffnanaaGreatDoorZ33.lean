/- Package wire: Read. -/
import Derived.Test.YtjgmbgfcffnanaaGreatDoorZ32
set_option maxRecDepth 100000
set_option maxHeartbeats 4000000
namespace Go.Proofs.YtjgmbgfcffnanaaGreatDoor
open Go.RowKit
theorem read_neq_yes (w : World) : (binOp .neq 20 (.iface 96 (.agg #[])) .nilIface).run Tryz.prog w = .ok (.bool true) w := by kernel_rfl
theorem read_neq_no (w : World) : (binOp .neq 20 .nilIface .nilIface).run Tryz.prog w = .ok (.bool false) w := by kernel_rfl
def zP : List IV := [IV.int 0,IV.val (.slice none 0 0)]
abbrev zH (e : Int) : List Ent := [(0,imB 29 zP),(1,imB 22 [IV.int e])]
theorem read_catch_yes {F : Fx} (hF : F.ro = none) {nt : Nat} {σ : Env} {a0 e0 : IV} {b0 : IV} {μ : Mem} {ρ : Nms} {a : Act} {w : World} {v2 v3 : Value} (hi : Inv F nt ⟨σ,[(0,imB 29 [a0,b0]),(1,imB 22 [e0])],2⟩ μ ρ a w) (h2 : SV.R ρ μ (.off 0 0) v2) (h3 : SV.R ρ μ (.off 1 0) v3) :
 CallsD Tryz.prog 21 #[v2,v3] (.panicking ch0) w fun e u' w' => e = .returned (.tuple #[]) ∧ u' = .panicking [{ v := .iface 96 (.agg #[]),recovered := true }] ∧
  ∃ μ2 ρ2 a2,Inv { F with D := [] } 5 ⟨[(0,.is v2 (.off 0 0)),(1,.is v3 (.off 1 0))],zH 1,2⟩ μ2 ρ2 a2 w' := by
 refine callsD_of_wpS Tryz.func21 rfl fun c₀ cs hu => ?_
 apply wpS_seq
 apply wpS_region
 have hn := read_neq_yes
 simp [wpOpsS,go_sem,recoverD,hu,Tryz.ntmps21,Exit.thenS,ch0]
 have ht : (#[v2,v3] ++ ((Array.replicate 3 undef).setIfInBounds 0 (.iface 96 (.agg #[]))).setIfInBounds 1 (.bool true)) = #[v2,v3,.iface 96 (.agg #[]),.bool true,undef] := rfl
 rw [ht]
 clear ht
 refine wpS_of_wp ?_
 refine (wpIn_wide (n := 9)).1 ?_
 rw [← jB (F := { F with D := [] }) hF]
 have hi' : Inv { F with D := [] } 5 ⟨[(0,.is v2 (.off 0 0)),(1,.is v3 (.off 1 0)),(3,.im (IV.bool true))],[(0,imB 29 [a0,b0]),(1,imB 22 [e0])],2⟩ μ ρ { tmps := #[v2,v3,.iface 96 (.agg #[]),.bool true,undef],defers := [] } w := by
  refine ⟨rfl,rfl,fun t s hs => ?_,hi.agr,hi.heap,hi.nms,hi.os,hi.tape,hi.output,hi.hsize,hi.block,hi.le,hi.new,hi.own⟩
  match t,hs with
  | 0,hs => injection hs with hs;subst hs;unfold SV.R;exact ⟨rfl,h2⟩
  | 1,hs => injection hs with hs;subst hs;unfold SV.R;exact ⟨rfl,h3⟩
  | 2,hs => cases hs
  | 3,hs => injection hs with hs;subst hs;exact oi.2 rfl
  | _ + 4,hs => cases hs
 refine wpIn_mono ((?_ : WP CC { F with D := [] } 5 _ (fun e z => e = .normal ∧ z = ⟨[(0,.is v2 (.off 0 0)),(1,.is v3 (.off 1 0))],zH 1,2⟩) ⟨[(0,.is v2 (.off 0 0)),(1,.is v3 (.off 1 0)),(3,.im (IV.bool true))],[(0,imB 29 [a0,b0]),(1,imB 22 [e0])],2⟩) μ ρ _ w hi') ?_
 ·refine zC (fun h => ?_) (fun h => ?_)
  ·refine WP.post ?_
   (refine zR ?_;refine sA ?_;refine ALK.e (oz (o := 0) rfl (Ev.is rfl) (eB rfl) Cs.a rfl rfl rfl) rfl rfl ?_;refine ALK.e (oz (o := 0) rfl (Ev.is rfl) (eB rfl) Cs.a rfl rfl rfl) rfl rfl ?_;refine zN ?_)
   exact ⟨_,Shift.sub [(0,0),(1,1)] rfl SubE.a (SubH.cons rfl rfl (ObLe.blk SLes.a) (SubH.cons rfl rfl (ObLe.blk SLes.a) SubH.nil)),rfl,rfl⟩
  ·cases h
 ·rintro e a' w' ⟨y,μ',ρ',⟨rfl,rfl⟩,hy⟩
  exact ⟨hy.defers,_,rfl,.tuple #[],results_none rfl _ _ _,rfl,rfl,μ',ρ',a',hy⟩
theorem read_catch_no {v2 v3 : Value} {w : World} :
 CallsD Tryz.prog 21 #[v2,v3] .returning w fun e u' w' => e = .returned (.tuple #[]) ∧ u' = .returning ∧ w' = w := by
 refine callsD_of_wpS Tryz.func21 rfl fun c₀ cs hu => ?_
 apply wpS_seq
 apply wpS_region
 have hn := read_neq_no
 simp [wpOpsS,go_sem,recoverD,hu,Tryz.ntmps21,Exit.thenS]
 have ht : (#[v2,v3] ++ ((Array.replicate 3 undef).setIfInBounds 0 .nilIface).setIfInBounds 1 (.bool false)) = #[v2,v3,.nilIface,.bool false,undef] := rfl
 rw [ht]
 clear ht
 refine wpS_of_wp ?_
 go_wp2
 exact ⟨rfl,.returning,by rw [← hu],.tuple #[],results_none rfl _ _ _,rfl,rfl,rfl⟩
theorem wire_into_p (a0 b0 : IV) : FnP ch0 CC 22 2 [.off 0 0,.pk 1 [.off 1 0]] [(0,glassB []),(1,imB 29 [a0,b0])] [(0,glassB []),(1,imB 29 [a0,b0])] 2 [0,1] := by
 refine FnP.of_wp _ [(0,0),(1,1)] Tryz.func22 rfl (by kernel_rfl) Tryz.ntmps22 rfl rfl rfl rfl rfl rfl rfl rfl ?_
 intro F vs hD hvs
 obtain ⟨v0,v1,rfl⟩ := len2 hvs
 show WP _ _ _ _ _ ⟨[(0,.is v0 (.off 0 0)),(1,.is v1 (.pk 1 [.off 1 0]))],[(0,glassB []),(1,imB 29 [a0,b0])],2⟩
 (refine zR ?_;refine sI ?_;refine ALK.n (opn_lenPk rfl (eB rfl)) rfl ?_;refine sI ?_;refine zN ?_)
 refine zB ?_
 refine WP.loop (fun _ : Unit => ⟨[(8,.im (IV.int 0)),(7,.im (IV.int 1)),(6,.pk 1 [.off 1 0]),(0,.is v0 (.off 0 0)),(1,.is v1 (.pk 1 [.off 1 0]))],[(0,glassB []),(1,imB 29 [a0,b0])],2⟩) (fun _ => True) (fun _ => 0) () trivial (Shift.sub [(0,0),(1,1)] rfl (SubE.cons rfl SLe.a (SubE.cons rfl SLe.a (SubE.cons rfl (SLe.pk (SLes.cons (SLe.off rfl rfl) SLes.nil)) (SubE.cons rfl SLe.a (SubE.cons rfl (SLe.is (SLe.pk (SLes.cons (SLe.off rfl rfl) SLes.nil))) SubE.nil))))) (SubH.cons rfl rfl (ObLe.blk SLes.a) (SubH.cons rfl rfl (ObLe.blk SLes.a) SubH.nil))) ?_
 rintro _ _
 (refine zR ?_;refine sI ?_;refine zN ?_)
 refine zC (fun h => ?_) (fun h => ?_)
 ·refine zS ?_
  refine zB ?_
  (refine zR ?_;refine ALK.n (jI rfl (eB rfl) (eB rfl) (by omega) (by omega)) rfl ?_;refine ALK.n (oe rfl rfl (eB rfl) rfl) rfl ?_;refine sI ?_;refine zN ?_)
  ((repeat apply WP.seq);apply WP.xreg;refine LX.n (o4 (eB rfl)) rfl ?_;refine LX.n (o4 (Ev.is rfl)) rfl ?_;refine LX.p (og [0] ((oD 1 [] (by omega)).no rfl) EvsS.a rfl rfl rfl HIn.a) ?_)
  exact ⟨rfl,HSb.a,Kept.a⟩
 ·simp at h
def ReadQ (b : List UInt8) (v2 v3 : Value) : Exit → St → Prop
 | .ret,y => ∃ p,readS b = (p,0) ∧ lk y.σ 2 = some (.is v2 (.off 0 0)) ∧ lk y.σ 3 = some (.is v3 (.off 1 0)) ∧ hget y.H 0 = some (imB 29 (cP p)) ∧ hget y.H 1 = some (imB 22 [IV.int 0])
 | .panic c,y => c = ch0 ∧ readS b = (zeroP,1) ∧ lk y.σ 2 = some (.is v2 (.off 0 0)) ∧ lk y.σ 3 = some (.is v3 (.off 1 0)) ∧ ∃ a0 b0 e0,hget y.H 0 = some (imB 29 [a0,b0]) ∧ hget y.H 1 = some (imB 22 [e0])
 | _,_ => False
theorem planP_cut (s : List UInt8) : planP s = (numP 1 s).bind fun x => (listP txnP x.2).bind fun z => some (⟨x.1,z.1⟩,z.2) := rfl
def RD (s : IV) (F : Fx) (e : Ending) (w' : World) : Prop := ∃ v μ',e = .returned v ∧ s.p μ' v ∧ Stp F.μ0 F.w0 μ' w'
theorem Fn.of_defer {C : Cfg} {f : FuncId} {fn : Func} {c : Code} {args : List IV} {s : IV} (nt : Nat) (hf : C.P.funcs[f]? = some fn) (hb : fn.body = some c) (hname : (fn.name == "runtime.NumGoroutine") = false) (hnt : fn.ntmps = nt) (hn : Nat.ble args.length nt = true)
 (h : ∀ (F : Fx) (a : Act) (w : World),F.D = [] → F.ro = none → (∀ g,¬ F.G g) → Inv F nt ⟨env0 0 args,[],0⟩ F.μ0 (fun _ => none) a w → c.wpIn F.fen 9 C.P (bodyPostD C.P fn (RD s F)) a w) : Fn C f args s := by
 refine ⟨⟨fn,hf,by rw [hb];rfl,hname⟩,fun μ w vs hvs ha => ?_⟩
 have hlen := hvs.length
 refine calls_of_wp_defers hf hb ((wpIn_wide (n := 9)).1 ?_)
 have hle := Nat.le_of_ble_eq_true hn
 have hi : Inv ⟨w,μ,fun _ => False,[],none⟩ nt ⟨env0 0 args,[],0⟩ μ (fun _ => none) { tmps := vs.toArray ++ Array.replicate (fn.ntmps - vs.toArray.size) undef,defers := [] } w := by
  refine ⟨by simp;omega,rfl,fun t s hs => ?_,ha,⟨(fun e he => by cases he),(fun e he => by cases he)⟩,fun i hi => absurd rfl hi,rfl,rfl,rfl,Nat.le_refl _,fun _ _ _ => rfl,Mem.le.refl _,fun b hb => .inl hb,(fun e he => by cases he)⟩
  obtain ⟨j,s',h1,h2,rfl⟩ := qr hs
  rw [Nat.zero_add] at h1
  subst h1
  obtain ⟨v,h3,h4⟩ := hvs.get h2
  have hj : t < vs.length := (List.getElem?_eq_some_iff.1 h3).1
  refine oi.2 ?_
  have : (vs.toArray ++ Array.replicate (fn.ntmps - vs.toArray.size) undef).getD t undef = v := by
   rw [Array.getD_eq_getD_getElem?,Array.getElem?_append_left (by simpa using hj)]
   simp [h3]
  rw [this];exact h4
 exact h ⟨w,μ,fun _ => False,[],none⟩ _ w rfl rfl (fun _ h => h) hi
theorem RetOk.rd {C : Cfg} {F : Fx} {nt : Nat} {fn : Func} {s : IV} {y : St} {μ : Mem} {ρ : Nms} {a : Act} {w : World} (h : RetOk C F nt fn s y) (hG : ∀ g,¬ F.G g) (hy : Inv F nt y μ ρ a w) : ∃ v,(results fn a.tmps).run C.P w = .ok v w ∧ RD s F (.returned v) w := by
 obtain ⟨v,ν,h1,h2,h3,h4,h5⟩ := h μ ρ a w hy
 exact ⟨v,h1,v,ν,rfl,h2,⟨⟨hy.os,hy.tape,hy.output,hy.hsize,fun k hk => hy.block k hk (hG k)⟩,h3,fun b hb => (h4 b hb).imp id (fun hx => hx.elim id (fun hf => (hG _ hf).elim)),h5⟩⟩
theorem off_uniq {ρ : Nms} {μ : Mem} {i o : Nat} {v u : Value} (h : SV.R ρ μ (.off i o) v) (k : SV.R ρ μ (.off i o) u) : v = u := by
 unfold SV.R at h k
 obtain ⟨g,h1,rfl⟩ := h
 obtain ⟨g',k1,rfl⟩ := k
 rw [h1] at k1
 injection k1 with k1
 rw [k1]
theorem Step1.wp {C : Cfg} {F : Fx} {ops : Array Oper} {nt k : Nat} {o : Oper} {x y : St} {s : SV} {μ : Mem} {ρ : Nms} {a : Act} {w : World} (h : Step1 C ops nt k o x s y) (hg : o.guard = none) (hi : Inv F nt x μ ρ a w) : o.wp C.P a w (fun a' w' => ∃ μ' ρ',Inv F nt y μ' ρ' a' w') NoExit := by
 have h1 := h.sound hi
 unfold Next1 at h1
 rw [if_pos (by simp [Region.wanted,hg])] at h1
 exact h1
theorem Inv.undefer {F : Fx} {nt : Nat} {x : St} {μ : Mem} {ρ : Nms} {a : Act} {w : World} (h : Inv F nt x μ ρ a w) : Inv { F with D := [] } nt x μ ρ { tmps := a.tmps,defers := [] } w := ⟨h.size,rfl,h.env,h.agr,h.heap,h.nms,h.os,h.tape,h.output,h.hsize,h.block,h.le,h.new,h.own⟩
theorem Inv.defer {F : Fx} {nt : Nat} {x : St} {μ : Mem} {ρ : Nms} {a : Act} {w : World} (h : Inv F nt x μ ρ a w) (d : Deferred) : Inv { F with D := d :: F.D } nt x μ ρ { tmps := a.tmps,defers := d :: a.defers } w := ⟨h.size,by show d :: a.defers = _;rw [h.defers],h.env,h.agr,h.heap,h.nms,h.os,h.tape,h.output,h.hsize,h.block,h.le,h.new,h.own⟩
theorem wire_Read_fn (b : List UInt8) : Fn CC 7 [IV.str b] (IV.tup [planV (readS b).1,IV.int (readS b).2]) := by
 refine Fn.of_defer _ Tryz.func7 rfl (by kernel_rfl) Tryz.ntmps7 rfl ?_
 intro F a w hD hro hG hi
 refine wpIn_seq (wpIn_mono ((?_ : WP CC F 34 _ (fun e y => e = .normal ∧ y = ⟨[(3,.off 1 0),(2,.off 0 0),(0,.im (IV.str b))],[(1,imB 22 [IV.int 0]),(0,imB 29 zP)],2⟩) ⟨[(0,.im (IV.str b))],[],0⟩) _ _ _ w hi) ?_)
 ·(refine zR ?_;(iterate 2 refine sA ?_);refine zN ?_)
  exact ⟨rfl,rfl⟩
 rintro e a1 w1 ⟨y,μ1,ρ1,⟨rfl,rfl⟩,hi1⟩
 show Code.wpIn _ _ _ (.seq _ _) _ _ _
 refine wpIn_seq (wpIn_mono ((?_ : WP CC F 34 _ (fun e y => (e = .normal ∧ ¬ 4096 < b.length ∧ y = ⟨[(3,.off 1 0),(2,.off 0 0),(0,.im (IV.str b))],[(1,imB 22 [IV.int 0]),(0,imB 29 zP)],2⟩) ∨ (e = .ret ∧ RetOk CC F 34 Tryz.f7 (IV.tup [planV (readS b).1,IV.int (readS b).2]) y)) ⟨[(3,.off 1 0),(2,.off 0 0),(0,.im (IV.str b))],[(1,imB 22 [IV.int 0]),(0,imB 29 zP)],2⟩) _ _ _ w1 hi1) ?_)
 ·refine WP.post ?_
  (refine zR ?_;refine sA ?_;refine ALK.n (oJ rfl (eB rfl)) rfl ?_;refine sA ?_;refine zN ?_)
  refine zC (fun h => ?_) (fun h => ?_)
  ·have hl : 4096 < b.length := by simp at h;omega
   have hr : readS b = (zeroP,2) := by unfold readS;rw [if_pos hl]
   rw [hr]
   (refine zR ?_;refine sA ?_;refine ALK.e (oz (o := 0) rfl (eB rfl) (eB rfl) Cs.a rfl rfl rfl) rfl rfl ?_;refine ALK.e (oz (o := 0) rfl (eB rfl) (eB rfl) Cs.a rfl rfl rfl) rfl rfl ?_;refine zN ?_)
   (repeat apply WP.seq)
   refine WP.ret ?_
   exact ⟨_,Shift.refl,.inr ⟨rfl,RetOk.tup Tryz.results7 rfl ResVs.a⟩⟩
  ·have hl : ¬ 4096 < b.length := by simp at h;omega
   refine WP.skip ?_
   exact ⟨_,Shift.sub [(0,0),(1,1)] rfl SubE.a (SubH.cons rfl rfl (ObLe.blk SLes.a) (SubH.cons rfl rfl (ObLe.blk SLes.a) SubH.nil)),.inl ⟨rfl,hl,rfl⟩⟩
 rintro e a2 w2 ⟨y,μ2,ρ2,hq,hi2⟩
 rcases hq with ⟨rfl,hl,rfl⟩ | ⟨rfl,hr⟩
 rotate_left
 ·show Leaves _ _ _ _ a2.defers _ _
  rw [hi2.defers,hD]
  exact RetOk.rd hr hG hi2
 show Code.wpIn _ _ _ (.seq (.region _ _ _) _) _ _ _
 refine wpIn_seq (wpIn_region_lit ?_)
 unfold wpListIn
 rw [if_pos (by rfl)]
 refine jG (K := fun a' w' => ∃ μ' ρ',Inv F 34 ⟨[(9,.fn 21 [.off 0 0,.off 1 0]),(3,.off 1 0),(2,.off 0 0),(0,.im (IV.str b))],[(1,imB 22 [IV.int 0]),(0,imB 29 zP)],2⟩ μ' ρ' a' w') (fun a' w' ⟨_,_,h3⟩ => h3.defers.trans hi2.defers.symm) (fun a3 w3 ⟨μ3,ρ3,hi3⟩ => ?_) ?_
 rotate_left
 ·refine Step1.wp (ops := #[]) (k := 0) (s := .fn 21 [.off 0 0,.off 1 0]) (Step1.n (.inl rfl) rfl ?_) rfl hi2
  exact oN (l := [.off 0 0,.off 1 0]) EvsS.a
 unfold wpListIn
 rw [if_pos (by rfl)]
 refine ⟨fun _ _ => trivial,?_⟩
 have h9 := hi3.env 9 _ rfl
 unfold SV.R at h9
 obtain ⟨vs,h9,h10⟩ := h9
 unfold SV.Rs at h10
 obtain ⟨v2,vs2,rfl,k2,h10⟩ := h10
 unfold SV.Rs at h10
 obtain ⟨v3,vs3,rfl,k3,h10⟩ := h10
 unfold SV.Rs at h10
 subst h10
 show Oper.uponIn _ _ _ _ _ _ _ ((Oper.semAt F.ro _ _).run _ _)
 rw [hro,Oper.semAt_none]
 have hrun : (execOp a3.eval { dst := none,op := Op.defer { callee := Callee.value (Go.Operand.tmp 9),args := #[],argTypes := #[] },type := 0,pos := "wire.go:103",after := #[{ on := 0,ground := Ground.data }],guard := none }).run Tryz.prog w3 = .ok (.defer { target := .fn (.func 21) #[v2,v3],args := #[] }) w3 := by
  simp [execOp,resolve,Act.eval,h9,Deferred.ofValue]
 rw [hrun,Oper.uponIn_defer]
 obtain ⟨d,hd⟩ : ∃ d : Deferred,d = { target := .fn (.func 21) #[v2,v3],args := #[] } := ⟨_,rfl⟩
 rw [← hd]
 have e2 : a3.tmps.getD 2 undef = v2 := off_uniq (hi3.env 2 _ rfl) k2
 have e3 : a3.tmps.getD 3 undef = v3 := off_uniq (hi3.env 3 _ rfl) k3
 have hi4 : Inv { F with D := [d] } 34 ⟨[(3,.is v3 (.off 1 0)),(2,.is v2 (.off 0 0)),(0,.im (IV.str b))],[(1,imB 22 [IV.int 0]),(0,imB 29 zP)],2⟩ μ3 ρ3 { tmps := a3.tmps,defers := d :: a3.defers } w3 := by
  have h := hi3.defer d
  refine ⟨h.size,by show d :: a3.defers = _;rw [hi3.defers,hD],fun t s hs => ?_,h.agr,h.heap,h.nms,h.os,h.tape,h.output,h.hsize,h.block,h.le,h.new,h.own⟩
  match t,hs with
  | 0,hs => injection hs with hs;subst hs;exact hi3.env 0 _ rfl
  | 1,hs => cases hs
  | 2,hs => injection hs with hs;subst hs;unfold SV.R;exact ⟨e2,by show SV.R ρ3 μ3 _ (a3.tmps.getD 2 undef);rw [e2];exact k2⟩
  | 3,hs => injection hs with hs;subst hs;unfold SV.R;exact ⟨e3,by show SV.R ρ3 μ3 _ (a3.tmps.getD 3 undef);rw [e3];exact k3⟩
  | _ + 4,hs => cases hs
 show Code.wpIn _ _ _ _ _ _ _
 refine wpIn_mono ((?_ : WP CC { F with D := [d] } 34 _ (ReadQ b v2 v3) ⟨[(3,.is v3 (.off 1 0)),(2,.is v2 (.off 0 0)),(0,.im (IV.str b))],[(1,imB 22 [IV.int 0]),(0,imB 29 zP)],2⟩) μ3 ρ3 _ w3 hi4) ?_
 ·(refine zR ?_;refine sI ?_;refine sA ?_;refine ALK.a (uT (eB rfl) Cs.a) rfl ?_;(iterate 2 refine sI ?_);refine zN ?_)
  refine WP.shift (Shift.frzPp 4 rfl rfl) ?_
  cases hp : numP 1 b with
  | none =>
   have hb : b = [] := by
    cases b with
    | nil => rfl
    | cons c s => rw [qO] at hp;cases hp
   subst hb
   ((repeat apply WP.seq);apply WP.xreg;refine LX.n (oe rfl rfl (eB rfl) rfl) rfl ?_;(first | refine LX.n (qU (o := 0) rfl (Ev.is rfl)) rfl ?_ | refine LX.n (ou (o := 0) rfl (Ev.is rfl)) rfl ?_);refine LX.n (od rfl rfl rfl rfl rfl rfl (Pc rfl (eB rfl) Cs.a rfl rfl Parts.nil)) rfl ?_;refine LX.p (og [2,0] (wire_into_p _ _) EvsS.a rfl rfl rfl HIn.a) ?_)
   exact ⟨rfl,rfl,rfl,rfl,_,_,_,rfl,rfl⟩
  | some y =>
   obtain ⟨n,r⟩ := y
   (refine zR ?_;refine ALK.n (oe rfl rfl (eB rfl) rfl) rfl ?_;refine fI 0 ?_;refine ALK.n (od rfl rfl rfl rfl rfl rfl (Pc rfl (eB rfl) Cs.a rfl rfl Parts.nil)) rfl ?_;refine ALK.e (o5 [2,0] ((uJ [0 + 0] b 29 zP (by simp) (by simp [zP]) (by simp)).ok (by rw [y3,hp];rfl)) EvsS.a rfl rfl rfl HIn.a) rfl rfl ?_;refine zN ?_)
   cases hq : listP txnP r with
   | none =>
    have hr : readS b = (zeroP,1) := by unfold readS;rw [if_neg hl,planP_cut,hp,Option.bind_some,hq];rfl
    ((repeat apply WP.seq);apply WP.xreg;refine LX.n (oe rfl rfl (eB rfl) rfl) rfl ?_;refine LX.n (oN (l := [.pp [.off 2 0]]) EvsS.a) rfl ?_;refine LX.p (og [2] ((jv _ jM r).no (by rw [hq];rfl)) EvsS.a rfl rfl rfl HIn.a) ?_)
    exact ⟨rfl,hr,rfl,rfl,_,_,_,rfl,rfl⟩
   | some y =>
    obtain ⟨l,r2⟩ := y
    have hpl : planP b = some (⟨n,l⟩,r2) := by rw [planP_cut,hp,Option.bind_some,hq];rfl
    have hPD := planP_D hpl
    (refine zR ?_;refine ALK.n (oe rfl rfl (eB rfl) rfl) rfl ?_;refine ALK.n (oN (l := [.pp [.off 2 0]]) EvsS.a) rfl ?_;refine ALK.e (o5 [2] ((jv _ jM r).ok (by rw [hq];rfl)) EvsS.a rfl rfl rfl HIn.a) rfl rfl ?_;refine fI 1 ?_;refine sI ?_;refine zN ?_)
    refine WP.shift (Shift.frzIn 0 1 rfl rfl rfl rfl) ?_
    (refine zR ?_;refine ALK.n (oe rfl rfl (eB rfl) rfl) rfl ?_;refine sI ?_;refine fI 0 ?_;refine sI ?_;refine ALK.n (oa (b := []) (eB rfl) (eB rfl) rfl) rfl ?_;refine sI ?_;(first | refine ALK.g (fun hb => oQ rfl (Ev.is rfl) rfl) rfl rfl rfl ?_ | refine ALK.rg (fun hb => oK rfl (Ev.is rfl) rfl rfl) rfl rfl rfl ?_ | refine ALK.rg (fun hb => oR rfl rfl (Ev.is rfl) rfl (by assumption) rfl) rfl rfl rfl ?_ | refine ALK.rg (fun hb => opr_loadK0 rfl (Ev.is rfl) rfl (by assumption) rfl) rfl rfl rfl ?_ | refine ALK.rg (fun hb => opr_loadK rfl (Ev.is rfl) rfl (by assumption) rfl) rfl rfl rfl ?_);refine ALK.g (fun hb => o3 (yA ⟨n,l⟩ (planD_B hPD)) (Evs.cons Ev.a Evs.nil)) rfl rfl rfl ?_;(first | refine ALK.g (fun hb => oC (eC rfl hb) (eB rfl) rfl) rfl rfl rfl ?_ | refine ALK.g (fun hb => oB rfl (eC rfl hb) (eB rfl) rfl) rfl rfl rfl ?_);refine sA ?_;refine zN ?_)
    refine zC (fun h => ?_) (fun h => ?_)
    ·have hr : readS b = (zeroP,1) := by
      unfold readS
      rw [if_neg hl,hpl]
      cases r2 with
      | cons c r2 => rfl
      | nil =>
       have hc : checkPlan ⟨n,l⟩ ≠ 0 := by simpa using h
       simp only [hc,if_false]
     ((repeat apply WP.seq);apply WP.xreg;(first | refine LX.n (yC rfl rfl rfl rfl Parts.nil) rfl ?_ | refine LX.n (yu rfl rfl rfl rfl rfl Parts.nil) rfl ?_);refine LX.n (opn_mkIface0 (by kernel_rfl) (eB rfl)) rfl ?_;refine LX.p (opp_panic (eB rfl) ⟨_,_,rfl⟩ rfl) ?_)
     exact ⟨rfl,hr,rfl,rfl,_,_,_,rfl,rfl⟩
    ·refine zS ?_
     have hr : readS b = (⟨n,l⟩,0) := by
      unfold readS
      rw [if_neg hl,hpl]
      cases r2 with
      | cons c r2 => simp at h
      | nil =>
       have hc : checkPlan ⟨n,l⟩ = 0 := by simpa using h
       simp only [hc,if_true]
     (refine zR ?_;(iterate 3 refine sI ?_);refine zN ?_)
     (repeat apply WP.seq)
     refine WP.ret ?_
     exact ⟨⟨n,l⟩,hr,rfl,rfl,rfl,rfl⟩
 ·rintro e a4 w4 ⟨y,μ4,ρ4,hq,hi5⟩
  subst hd
  cases e with
  | ret =>
   obtain ⟨p,hr,l2,l3,g0,g1⟩ := hq
   rw [hr]
   show Leaves _ _ _ _ a4.defers _ _
   rw [hi5.defers]
   refine leaves_cons (f := 21) (args := #[v2,v3]) (by simp) (by simp [go_sem]) ?_
   refine (read_catch_no (v2 := v2) (v3 := v3) (w := w4)).mono ?_
   rintro e u' w' ⟨rfl,rfl,rfl⟩
   obtain ⟨μ5,ρ5,hi6⟩ := (Shift.sub [(0,0),(1,1)] rfl (SubE.cons l2 (SLe.of (SLe.off rfl rfl)) (SubE.cons l3 (SLe.of (SLe.off rfl rfl)) SubE.nil)) (SubH.cons rfl g0 (ObLe.blk (SLes.ims _)) (SubH.cons rfl g1 (ObLe.blk (SLes.ims _)) SubH.nil)) : Shift { F with D := [{ target := .fn (.func 21) #[v2,v3],args := #[] }] } 34 y ⟨[(2,.off 0 0),(3,.off 1 0)],[(0,imB 29 (cP p)),(1,imB 22 [IV.int 0])],2⟩) _ _ _ _ hi5
   have hfin := RetOk.rd (F := { F with D := [] }) (C := CC) (fn := Tryz.f7) (s := IV.tup [planV p,IV.int 0]) (a := { tmps := a4.tmps,defers := [] }) (RetOk.tup Tryz.results7 rfl ResVs.a) hG hi6.undefer
   exact hfin
  | panic c =>
   obtain ⟨rfl,hr,l2,l3,a0,b0,e0,g0,g1⟩ := hq
   rw [hr]
   show Leaves _ _ _ _ a4.defers _ _
   rw [hi5.defers]
   obtain ⟨μ5,ρ5,hi6⟩ := (Shift.sub [(0,0),(1,1)] rfl (SubE.cons l2 (SLe.is (SLe.off rfl rfl)) (SubE.cons l3 (SLe.is (SLe.off rfl rfl)) SubE.nil)) (SubH.cons rfl g0 (ObLe.blk SLes.a) (SubH.cons rfl g1 (ObLe.blk SLes.a) SubH.nil)) : Shift { F with D := [{ target := .fn (.func 21) #[v2,v3],args := #[] }] } 34 y ⟨[(2,.is v2 (.off 0 0)),(3,.is v3 (.off 1 0))],[(0,imB 29 [a0,b0]),(1,imB 22 [e0])],2⟩) _ _ _ _ hi5
   have m2 := hi6.env 2 _ rfl
   have m3 := hi6.env 3 _ rfl
   unfold SV.R at m2 m3
   refine leaves_cons (f := 21) (args := #[v2,v3]) (by simp) (by simp [go_sem]) ?_
   refine (read_catch_yes (F := { F with D := [{ target := .fn (.func 21) #[v2,v3],args := #[] }] }) hro hi6 (by rw [← m2.1];exact m2.2) (by rw [← m3.1];exact m3.2)).mono ?_
   rintro e u' w' ⟨rfl,rfl,μ7,ρ7,a7,hi7⟩
   have q2 := hi7.env 0 _ rfl
   have q3 := hi7.env 1 _ rfl
   unfold SV.R at q2 q3
   have hi8 : Inv { F with D := [] } 34 ⟨[(2,.off 0 0),(3,.off 1 0)],zH 1,2⟩ μ7 ρ7 { tmps := a4.tmps,defers := [] } w' := by
    refine ⟨hi5.size,rfl,fun t s hs => ?_,hi7.agr,hi7.heap,hi7.nms,hi7.os,hi7.tape,hi7.output,hi7.hsize,hi7.block,hi7.le,hi7.new,hi7.own⟩
    match t,hs with
    | 0,hs => cases hs
    | 1,hs => cases hs
    | 2,hs => injection hs with hs;subst hs;show SV.R _ _ _ (a4.tmps.getD 2 undef);rw [m2.1,← q2.1];exact q2.2
    | 3,hs => injection hs with hs;subst hs;show SV.R _ _ _ (a4.tmps.getD 3 undef);rw [m3.1,← q3.1];exact q3.2
    | _ + 4,hs => cases hs
   show Leaves _ _ _ _ [] (settle _) _
   have hfin := RetOk.rd (F := { F with D := [] }) (C := CC) (fn := Tryz.f7) (s := IV.tup [planV zeroP,IV.int 1]) (a := { tmps := a4.tmps,defers := [] }) (RetOk.tup Tryz.results7 rfl ResVs.a) hG hi8
   exact hfin
  | _ => exact hq.elim
end Go.Proofs.YtjgmbgfcffnanaaGreatDoor
