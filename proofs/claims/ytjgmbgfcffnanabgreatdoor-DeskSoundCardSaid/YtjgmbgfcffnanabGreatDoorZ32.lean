/- A range over strings.Lines, whose iterator keeps what is left in a box. The reference: a script. Package desk: Play. The laws of package wire. The desk's law: what must be in any case. -/
import Derived.Test.YtjgmbgfcffnanabGreatDoorZ30
import Derived.Test.YtjgmbgfcffnanabGreatDoorZ31
set_option maxRecDepth 100000
set_option maxHeartbeats 4000000
namespace Go.Proofs.YtjgmbgfcffnanabGreatDoor
open Go.RowKit
def IterL (C : Cfg) (gf : FuncId) : Prop :=
 (∃ fn,C.P.funcs[gf]? = some fn ∧ fn.body.isNone = false ∧ (fn.name == "runtime.NumGoroutine") = false) ∧
 ∀ (g l : Nat) (J : List (List UInt8) → List UInt8 → World → Prop) (K : List (List UInt8) → List UInt8 → List UInt8 → World → Prop),
  (∀ pre r W,J pre r W → W.cell? ⟨g,0,none⟩ = some (.string (bS r)) ∧ W.frozen? ⟨g,0,none⟩ = false) →
  (∀ pre r W W',J pre r W → Below W.heap.size W W' → J pre r W') →
  (∀ pre u r W,10 ∉ u → J pre (u ++ 10 :: r) W → K pre u r (W.setCell ⟨g,0,none⟩ (.string (bS r)))) →
  (∀ pre u r W,K pre u r W → YieldAt Fence.wide 7 C.P l #[.string (bS (u ++ [10]))] W fun e W' => e = .returned (.bool true) ∧ J (pre ++ [u]) r W') →
  ∀ (t : List UInt8) (W : World),J [] t W → NL t → t.length ≤ 4611686018427387904 →
  CallsIn Fence.wide 8 C.P gf #[.func (.yield l) #[] #[],.pointer (some ⟨g,0,none⟩)] W fun e W' => (∃ v,e = .returned v) ∧ J (linesS t) [] W'
theorem lines_iter : IterL CC 43 := ⟨⟨_,Tryz.func43,by kernel_rfl,by kernel_rfl⟩,fun g l J K h1 h2 h3 h4 t W h5 h6 h7 => lines_in g l J K h1 h2 h3 h4 t W h5 h6 h7⟩
abbrev bx (b tb : Nat) (r : List UInt8) : Ent := (b,.blk tb [.im (IV.str r)])
theorem hset_none {b : Nat} {o : HObj} : ∀ {H : List Ent},hget H b = none → hset H b o = H
 | [],_ => rfl
 | (i,o0) :: H,h => by
  simp only [hget] at h
  simp only [hset]
  cases e : Nat.beq i b with
  | true => rw [e] at h;cases h
  | false => rw [e] at h;rw [hset_none h]
theorem hset_bx {b tb : Nat} {r r' : List UInt8} {H : List Ent} (h : hget H b = none) : hset (bx b tb r :: H) b (.blk tb [.im (IV.str r')]) = bx b tb r' :: H := by
 simp [hset,bx,hset_none h]
section
variable {C : Cfg} {F : Fx} {nt : Nat} {fn : Func} {x : St} {σ : Env} {R : Value → World → Prop} {b tb fr : Nat} {H : List Ent} {r r' : List UInt8} {μ : Mem} {ρ : Nms} {a : Act} {w w' : World} {g : Nat}
theorem Inv.bx_at (h : Inv F nt ⟨σ,bx b tb r :: H,fr⟩ μ ρ a w) (hb : (ρ b).bind blk = some g) : ρ b = some (.pointer (some ⟨g,0,none⟩)) ∧ μ g = none ∧ w.heap[g]? = some (.cells #[.string (bS r)] tb (0,0)) := by
 obtain ⟨g',us,h1,h2,h3,h4,h5⟩ := h.heap.1 _ List.mem_cons_self
 rw [h1] at hb
 simp only [Option.bind_some,blk,Option.some.injEq] at hb
 subst hb
 unfold SV.Rs at h3
 obtain ⟨u0,q,e1,k0,h3⟩ := h3
 unfold SV.Rs at h3
 subst h3
 have k0 := R_im.1 k0
 have : us = #[.string (bS r)] := Array.ext' (by rw [e1,k0])
 exact ⟨h1,h4,by rw [h2,this]⟩
theorem Inv.bx_set (hn : hget H b = none) (h : Inv F nt ⟨σ,bx b tb r :: H,fr⟩ μ ρ a w) (hb : (ρ b).bind blk = some g) : Inv F nt ⟨σ,bx b tb r' :: H,fr⟩ μ ρ a (w.setCell ⟨g,0,none⟩ (.string (bS r'))) := by
 have hm : bx b tb r ∈ bx b tb r :: H := List.mem_cons_self
 obtain ⟨h1,h4,hc⟩ := h.bx_at hb
 have hnew : EntOk ρ μ (w.setCell ⟨g,0,none⟩ (.string (bS r'))) (bx b tb r') := by
  refine ⟨g,#[.string (bS r')],h1,by simp [World.setCell,Array.getElem?_modify,hc],?_,h4,fun u hu => ?_⟩
  ·unfold SV.Rs
   exact ⟨_,_,rfl,R_im.2 rfl,by unfold SV.Rs;rfl⟩
  ·simp only [List.mem_cons,List.not_mem_nil,or_false] at hu
   subst hu;rfl
 obtain ⟨q1,q2⟩ := heap_set h.heap h.agr hm (turned_setCell w g 0 (.string (bS r'))) (fun k hk => by injection hk with hk;rw [← hk];exact eb_own (by simp [h1,blk])) hnew rfl
 rw [hset_bx hn] at q1 q2
 exact h.estp (Nat.le_refl _) q1 (fun _ _ h => h) (fun i hi => .inl hi) q2
theorem Raw.rangeL {M : Mem} {id gs p1 : Nat} {assign body rest : Code} {gf : FuncId} {t : List UInt8}
 (I : List (List UInt8) → List Ent × Nat) (hI : ∀ i,plainE (I i).1 = true) (hIb : ∀ i,hget (I i).1 b = none)
 (hD : F.D = []) (_ : F.ro = none) (hx : Shift F nt x ⟨σ,bx b tb t :: (I []).1,(I []).2⟩)
 (hg : lk σ gs = some (.fn gf [.off b 0])) (hgh : lk σ ghT = some (.im (IV.gh M))) (it : IterL C gf) (hNL : NL t) (hlen : t.length ≤ 4611686018427387904)
 (hp1 : lk σ p1 = none) (hpb : Nat.blt p1 nt = true)
 (hround : ∀ F' : Fx,F'.D = [] → ∀ ts pre u r,linesS t = pre ++ u :: linesS r → WP C F' nt assign (fun e y => e = .normal ∧ plainE y.H = true ∧ ∀ F2 : Fx,F2.D = [] → WP C F2 nt body (fun e2 z => e2 = .normal ∧ Shift F2 nt z ⟨isEnv ts σ,bx b tb r :: (I (pre ++ [u])).1,(I (pre ++ [u])).2⟩) y) ⟨(p1,.im (IV.wth M (IV.str (u ++ [10])))) :: isEnv ts σ,bx b tb r :: (I pre).1,(I pre).2⟩)
 (hdone : ∀ F2 : Fx,WP C F2 nt rest (fun e y => e = .ret ∧ plainE y.H = true ∧ RetP C F nt fn R y) ⟨σ,bx b tb [] :: (I (linesS t)).1,(I (linesS t)).2⟩) :
 Raw C F nt (.block id (.rangeFunc (.tmp gs) #[p1] assign body)) (Exit.then (rest.wpIn Fence.wide 9 C.P (FnRawP C F fn R)) (FnRawP C F fn R)) x := by
 intro μ0 ρ0 a w hi0
 obtain ⟨μ,ρ,hi⟩ := hx _ _ _ _ hi0
 clear hi0 hx
 have hPI : ∀ pre r,plainE (bx b tb r :: (I pre).1) = true := fun pre r => hI pre
 have b1 : p1 < nt := by simpa using hpb
 have hgf := hi.env gs _ hg
 unfold SV.R at hgf
 obtain ⟨vs,hvs,hcap⟩ := hgf
 unfold SV.Rs at hcap
 obtain ⟨v0,vs',rfl,hv0,hcap⟩ := hcap
 unfold SV.Rs at hcap
 subst hcap
 unfold SV.R at hv0
 obtain ⟨g,hb0,rfl⟩ := hv0
 have hbAt : ∀ {pre : List (List UInt8)} {r : List UInt8} {μ' : Mem} {ρ' : Nms} {W : World},Inv F nt ⟨σ,bx b tb r :: (I pre).1,(I pre).2⟩ μ' ρ' a W → (ρ' b).bind blk = some g := fun h => by
  have h1 := h.env gs _ hg
  unfold SV.R at h1
  obtain ⟨vs,e,hc⟩ := h1
  unfold SV.Rs at hc
  obtain ⟨v0,vs',rfl,hv0,hc⟩ := hc
  unfold SV.Rs at hc
  subst hc
  unfold SV.R at hv0
  obtain ⟨g',k0,rfl⟩ := hv0
  rw [hvs] at e
  injection e with _ _ e
  simp only [List.cons.injEq,Array.mk.injEq,Value.pointer.injEq,Option.some.injEq,Addr.mk.injEq,and_true] at e
  rw [e];exact k0
 obtain ⟨⟨gn,k1,k2,k3⟩,hit⟩ := it
 have hsize := hi.size
 refine wpIn_block ?_
 refine wpIn_rangeFunc ?_
 intro fid hfid
 obtain ⟨rec,hrec⟩ : ∃ rec : LoopState → Option Code → Loop,rec = fun st pe => { state := st,pending := pe,fn := fid,tmps := a.tmps,params := #[p1],assign,body,defers := w.heap.size } := ⟨_,rfl⟩
 obtain ⟨W1,hW1⟩ : ∃ W1,(w.alloc (.deferred (some []))).alloc (.loop (rec .ready none)) = W1 := ⟨_,rfl⟩
 have hL1 : W1.heap[w.heap.size + 1]? = some (.loop (rec .ready none)) := by
  rw [← hW1];have := World.alloc_heap_new (w.alloc (.deferred (some []))) (.loop (rec .ready none));rwa [World.size_alloc] at this
 have hK1 : W1.heap[w.heap.size]? = some (.deferred (some [])) := by
  rw [← hW1];exact (Below.heap_alloc _ _ _ (by simp)).trans (World.alloc_heap_new w _)
 have hsz1 : W1.heap.size = w.heap.size + 2 := by rw [← hW1];simp
 have hbel : Below w.heap.size w W1 := by rw [← hW1];exact ((Below.refl _ w).alloc (Nat.le_refl _) _).alloc (by simp) _
 have hi1 : Inv F nt ⟨σ,bx b tb t :: (I []).1,(I []).2⟩ μ ρ a W1 := hi.grown (hPI _ _) ⟨hbel.os,hbel.tape,hbel.output,hbel.size,fun k hk _ => hbel.block k hk⟩ (row := none) (fun r e => by cases e)
 have grow : ∀ {pre : List (List UInt8)} {r : List UInt8} {A B : World} {row : Option Nat} {μ' : Mem} {ρ' : Nms},Inv F nt ⟨σ,bx b tb r :: (I pre).1,(I pre).2⟩ μ' ρ' a A → A.grownBy B row → (∀ r,row = some r → w.heap.size ≤ r ∧ ∃ o : Obj,A.heap[r]? = some o ∧ o.isCells = false) → Inv F nt ⟨σ,bx b tb r :: (I pre).1,(I pre).2⟩ μ' ρ' a B := fun h hgr hr => h.grown (hPI _ _) hgr fun r e => ⟨Nat.le_trans hi.hsize (hr r e).1,(hr r e).2⟩
 refine ⟨w.heap.size + 1,[{ target := .collected w.heap.size,args := #[] }],W1,{ target := .fn (.func gf) #[.pointer (some ⟨g,0,none⟩)],args := #[.func (.yield (w.heap.size + 1)) #[] #[]] },W1,gf,
  #[.func (.yield (w.heap.size + 1)) #[] #[],.pointer (some ⟨g,0,none⟩)],W1,?_,?_,?_,?_,(fun h => by cases h),?_⟩
 ·rw [← hW1,hrec];exact run_enterLoop_outer _ _ _ _ _
 ·have : a.eval (.tmp gs) = .func (.func gf) #[] #[.pointer (some ⟨g,0,none⟩)] := hvs
  simp only [resolve,this]
  simp [go_sem]
 ·intro f' _;trivial
 ·simp [invoke,go_sem,run_callFunc k1 k2 k3]
 refine (hit g (w.heap.size + 1)
  (fun pre r W => (linesS t = pre ++ linesS r ∧ ∃ μ' ρ',Inv F nt ⟨σ,bx b tb r :: (I pre).1,(I pre).2⟩ μ' ρ' a W) ∧ W.heap[w.heap.size + 1]? = some (.loop (rec .ready none)) ∧ W.heap[w.heap.size]? = some (.deferred (some [])))
  (fun pre u r W => (linesS t = pre ++ u :: linesS r ∧ ∃ μ' ρ',Inv F nt ⟨σ,bx b tb r :: (I pre).1,(I pre).2⟩ μ' ρ' a W) ∧ W.heap[w.heap.size + 1]? = some (.loop (rec .ready none)) ∧ W.heap[w.heap.size]? = some (.deferred (some [])))
  ?_ ?_ ?_ ?_ t W1 ⟨⟨rfl,μ,ρ,hi1⟩,hL1,hK1⟩ hNL hlen).mono ?_
 ·rintro pre r W ⟨⟨_,μ',ρ',h3⟩,_,_⟩
  obtain ⟨_,_,h4⟩ := h3.bx_at (hbAt h3)
  exact ⟨by rw [Lib.cell_of_heap h4];rfl,Lib.frozen_of_heap h4 0⟩
 ·rintro pre r A B ⟨⟨he,μ',ρ',h3⟩,hl,hk⟩ hAB
  exact ⟨⟨he,μ',ρ',grow h3 ⟨hAB.os,hAB.tape,hAB.output,hAB.size,fun k hk _ => hAB.block k hk⟩ (row := none) (fun r e => by cases e)⟩,(hAB.block _ (Array.getElem?_eq_some_iff.1 hl).1).trans hl,(hAB.block _ (Array.getElem?_eq_some_iff.1 hk).1).trans hk⟩
 ·rintro pre u r W hu ⟨⟨he,μ',ρ',h3⟩,hl,hk⟩
  obtain ⟨_,_,h4⟩ := h3.bx_at (hbAt h3)
  refine ⟨⟨by rw [he,linesS_at r hu],μ',ρ',h3.bx_set (hIb _) (hbAt h3)⟩,?_,?_⟩
  ·rw [← hl]
   refine Below.heap_setCell _ _ _ _ (fun e => ?_)
   rw [e] at hl;rw [h4] at hl;cases hl
  ·rw [← hk]
   refine Below.heap_setCell _ _ _ _ (fun e => ?_)
   rw [e] at hk;rw [h4] at hk;cases hk
 ·rintro pre u r W ⟨⟨he,μ',ρ',h3⟩,hl,hk⟩
  have hy := run_yield (P := C.P) (args := #[.string (bS (u ++ [10]))]) hl (by rw [hrec];rfl)
  rw [hrec] at hy
  refine ⟨fid,_,assign,body,hy,roundIn_of_wpIn hfid ?_⟩
  have henv : EnvOk ρ' μ' ((p1,.im (IV.wth M (IV.str (u ++ [10])))) :: isEnv a.tmps σ) (a.tmps.setIfInBounds p1 (.string (bS (u ++ [10])))) :=
   EnvOk.cons h3.env.is (by omega) (isEnv_none hp1) (R_im.2 ⟨rfl,R_im.1 (h3.env ghT _ hgh)⟩)
  have h5 := h3.here (D := []) (ro := some (w.heap.size + 1)) (a1 := { tmps := a.tmps.setIfInBounds p1 (.string (bS (u ++ [10]))),defers := [] }) (by simp;exact hsize) rfl henv
  have h6 := hround _ rfl a.tmps pre u r he μ' ρ' _ W h5
  have e0 : (((#[p1].zip #[Value.string (bS (u ++ [10]))]).foldl (fun t (q : Tmp × Value) => t.setIfInBounds q.1 q.2) a.tmps)) = a.tmps.setIfInBounds p1 (.string (bS (u ++ [10]))) := by simp
  have e0' : (((#[p1].zip #[Value.string (bS (u ++ [10]))]).foldl (fun t (p,v) => t.setIfInBounds p v) a.tmps)) = a.tmps.setIfInBounds p1 (.string (bS (u ++ [10]))) := e0
  rw [e0']
  refine wpIn_mono (fen_n h6) ?_
  rintro e a2 Wa ⟨y,μ2,ρ2,⟨rfl,hpy,hbody⟩,hyi⟩
  have hback := h3.back hyi (a1 := a2) hyi.size (by rw [hD];exact hyi.defers) hyi.env
  have hka := keeps_of h3 (hPI _ _) hyi
  have hla := hka.same _ _ hl rfl
  have hkka := hka.same _ _ hk rfl
  refine ⟨_,run_beginRound hla (by rw [hrec]),?_⟩
  have hlt : w.heap.size + 1 < Wa.heap.size := (Array.getElem?_eq_some_iff.1 hla).1
  have hb2 := hback.grown hpy (w' := Wa.putObj (w.heap.size + 1) (.loop { rec .ready none with state := .busy })) (grownBy_putObj' Wa (w.heap.size + 1) _) (fun r e => by cases e;exact ⟨Nat.le_trans hi.hsize (by omega),_,hla,rfl⟩)
  have hl2 : (Wa.putObj (w.heap.size + 1) (.loop { rec .ready none with state := .busy })).heap[w.heap.size + 1]? = some (.loop { rec .ready none with state := .busy }) := World.putObj_heap_same hlt
  have hk2 : (Wa.putObj (w.heap.size + 1) (.loop { rec .ready none with state := .busy })).heap[w.heap.size]? = some (.deferred (some [])) := (World.putObj_heap_other (by omega)).trans hkka
  have h7 := hb2.here (D := []) (ro := some (w.heap.size + 1)) (a1 := a2) hyi.size hyi.defers hyi.env
  have h8 := hbody _ rfl μ2 ρ2 _ _ h7
  refine wpIn_mono (fen_n h8) ?_
  rintro e3 a3 W3 ⟨z,μ3,ρ3,⟨rfl,hs⟩,hz⟩
  obtain ⟨μ4,ρ4,h9⟩ := hs _ _ _ _ hz
  have hk3 := keeps_of hb2 hpy h9
  have hl3 := hk3.same _ _ hl2 rfl
  have hkk3 := hk3.same _ _ hk2 rfl
  have hend := run_endRound (P := C.P) (none : Option Code) hl3
  have hfin := hb2.back h9 (a1 := a) hsize hi.defers h9.env.unis
  have hlt3 := (Array.getElem?_eq_some_iff.1 hl3).1
  have hfin2 := grow (pre := pre ++ [u]) hfin (grownBy_putObj' W3 (w.heap.size + 1) (.loop { { rec .ready none with state := .busy } with state := if (none : Option Code).isNone then .ready else .done,pending := none })) (fun r e => by cases e;exact ⟨by omega,_,hl3,rfl⟩)
  refine ⟨_,_,hend,rfl,⟨by rw [he];simp,μ4,ρ4,hfin2⟩,?_,(World.putObj_heap_other (by omega)).trans hkk3⟩
  rw [World.putObj_heap_same hlt3,hrec]
  rfl
 ·rintro e W2 ⟨⟨v,rfl⟩,⟨he,μ',ρ',h3⟩,hl,hk⟩
  refine ⟨none,_,by have := run_endLoop (P := C.P) hl (by rw [hrec];simp);rw [hrec] at this;exact this,?_⟩
  have hlt : w.heap.size + 1 < W2.heap.size := (Array.getElem?_eq_some_iff.1 hl).1
  have hb3 := grow h3 (grownBy_putObj' W2 (w.heap.size + 1) (.loop { rec .ready none with state := .exhausted })) (fun r e => by cases e;exact ⟨by omega,_,hl,rfl⟩)
  have hDW : (W2.putObj (w.heap.size + 1) (.loop { rec .ready none with state := .exhausted })).heap[w.heap.size]? = some (.deferred (some [])) := (World.putObj_heap_other (by omega)).trans hk
  have h5 := hb3.here (D := [{ target := .collected w.heap.size,args := #[] }]) (ro := none) (a1 := { a with defers := { target := .collected w.heap.size,args := #[] } :: a.defers }) (σ := σ) hsize (by show _ :: a.defers = _;rw [hi.defers,hD]) hb3.env
  have h6 := hdone _ μ' ρ' _ _ h5
  rw [hrec] at h6 hDW hb3
  refine wpIn_mono h6 ?_
  rintro e a' W' ⟨y,μ'',ρ'',⟨rfl,hpz,hr⟩,hy⟩
  exact leavesP_mark hb3 (hPI _ _) hi.hsize hDW hy hpz hr
theorem Fn.wth {M : Mem} {f : FuncId} {s0 r0 : IV} {args : List IV} (h : Fn C f (s0 :: args) r0) : Fn C f (IV.wth M s0 :: args) (IV.wth M r0) := ⟨h.1,fun μ w vs hvs ha => by
 obtain ⟨v0,vs',rfl,h0,hvs⟩ := hvs
 refine (h.2 μ w (v0 :: vs') ⟨v0,vs',rfl,h0.1,hvs⟩ ha).mono ?_
 rintro e w' ⟨v,μ',rfl,h1,h2⟩
 exact ⟨v,μ',rfl,⟨h1,fun b c hb => h2.le _ _ (h0.2 _ _ hb)⟩,h2⟩⟩
def ImOut (F : Fx) (s : IV) (v : Value) (w : World) : Prop := ∃ μ',s.p μ' v ∧ Stp F.μ0 F.w0 μ' w
theorem RetP.im {s : IV} {y : St} (hG : ∀ g,¬ F.G g) (h : RetOk C F nt fn s y) : RetP C F nt fn (ImOut F s) y := fun μ ρ a w hy => by
 obtain ⟨v,ν,h1,h2,h3,h4,h5⟩ := h μ ρ a w hy
 exact ⟨v,h1,ν,h2,⟨⟨hy.os,hy.tape,hy.output,hy.hsize,fun k hk => hy.block k hk (hG k)⟩,h3,fun b hb => (h4 b hb).imp id (fun hx => hx.elim id (fun hf => (hG _ hf).elim)),h5⟩⟩
theorem Fn.of_rawP {f : FuncId} {c : Code} {args : List IV} {s : IV} (nt : Nat) (hf : C.P.funcs[f]? = some fn) (hb : fn.body = some c) (hname : (fn.name == "runtime.NumGoroutine") = false) (hnt : fn.ntmps = nt) (hn : Nat.ble args.length nt = true)
 (h : ∀ F : Fx,F.D = [] → F.ro = none → (∀ g,¬ F.G g) → Raw C F nt c (FnRawP C F fn (ImOut F s)) ⟨env0 0 args,[],0⟩) : Fn C f args s := by
 refine ⟨⟨fn,hf,by rw [hb];rfl,hname⟩,fun μ w vs hvs ha => ?_⟩
 have hlen := hvs.length
 have hle := Nat.le_of_ble_eq_true hn
 refine Calls.mono (callsIn_wide.1 (callsIn_of_wp_marks (n := 9) (R := fun e w' => ∃ v,e = .returned v ∧ ImOut ⟨w,μ,fun _ => False,[],none⟩ s v w') hf hb trivial ?_)) ?_
 ·refine h ⟨w,μ,fun _ => False,[],none⟩ rfl rfl (fun _ h => h) μ (fun _ => none) _ w ?_
  refine ⟨by simp;omega,rfl,fun t s hs => ?_,ha,⟨(fun e he => by cases he),(fun e he => by cases he)⟩,fun i hi => absurd rfl hi,rfl,rfl,rfl,Nat.le_refl _,fun _ _ _ => rfl,Mem.le.refl _,fun b hb => .inl hb,(fun e he => by cases he)⟩
  obtain ⟨j,s',h1,h2,rfl⟩ := env0_at hs
  rw [Nat.zero_add] at h1
  subst h1
  obtain ⟨v,h3,h4⟩ := hvs.get h2
  have hj : t < vs.length := (List.getElem?_eq_some_iff.1 h3).1
  refine R_im.2 ?_
  have : (vs.toArray ++ Array.replicate (fn.ntmps - vs.toArray.size) undef).getD t undef = v := by
   rw [Array.getD_eq_getD_getElem?,Array.getElem?_append_left (by simpa using hj)]
   simp [h3]
  rw [this];exact h4
 ·rintro e w' ⟨v,rfl,μ',h1,h2⟩
  exact ⟨v,μ',rfl,h1,h2⟩
end
theorem Lines_new (t : List UInt8) : FnE CC 17 0 [.im (IV.str t)] [] (.fn 43 [.off 0 0]) [bx 0 9 t] 1 [] := by
 refine FnE.of_wp _ [] Tryz.func17 rfl (by kernel_rfl) Tryz.ntmps17 rfl rfl rfl rfl rfl rfl rfl rfl rfl ?_
 intro F vs hD hvs
 obtain ⟨v0,rfl⟩ := len1 hvs
 show WP _ _ _ _ _ ⟨[(0,.im (IV.str t))],[],0⟩
 (refine zR ?_;refine ALK.a (opa_box (eB rfl) Cs.a) rfl ?_;refine sA ?_;refine zN ?_)
 (refine zR ?_;refine ALK.n (opn_makeFuncS (l := [.off 0 0]) EvsS.a) rfl ?_;refine sA ?_;refine zN ?_)
 exact zT Tryz.results17
def sbI (bs : List UInt8) : List (List UInt8) → List Ent
 | [] => [(1,.blk 70 [.im (IV.val (.pointer none)),.im (IV.val (.slice none 0 0))])]
 | _ :: _ => [(1,.blk 70 [.off 1 0,.row 3 bs.length]),(3,.row 5 1 cU8 bs)]
def plI (p : Plan) (ls : List (List UInt8)) : List Ent × Nat := ((0,imB 65 (cDk p (runQ p ls ([],dk0 p)).2)) :: sbI (runQ p ls ([],dk0 p)).1 ls,4)
theorem runQ_ne1 (p : Plan) : ∀ (ls : List (List UInt8)) (q : List UInt8 × Dk),q.1 ≠ [] → (runQ p ls q).1 ≠ []
 | [],_,h => h
 | l :: ls,q,h => runQ_ne1 p ls (stp p q l) (fun e => h (List.append_eq_nil_iff.1 (show q.1 ++ _ = [] from e)).1)
theorem runQ_ne (p : Plan) (x : List UInt8) (xs : List (List UInt8)) (q : List UInt8 × Dk) : (runQ p (x :: xs) q).1 ≠ [] :=
 runQ_ne1 p xs (stp p q x) (fun e => by
  have h := (List.append_eq_nil_iff.1 (show q.1 ++ ((lineS p q.2 x).1 ++ [10]) = [] from e)).2
  simp at h)
theorem Play_fn {M : Mem} (hM : GlobM M) (b t : List UInt8) (ht : t.length ≤ 4611686018427387904) : Fn CC 8 [IV.str b,IV.wth M (IV.str t)] (IV.tup [IV.str (scriptS b t),IV.int (scriptE b t)]) := by
 refine Fn.of_rawP _ Tryz.func8 rfl (by kernel_rfl) Tryz.ntmps8 rfl ?_
 intro F hD hro hG
 refine RawP.seq hD hro ?_
 show WP _ _ _ _ _ ⟨[(0,.im (IV.str b)),(1,.im (IV.wth M (IV.str t)))],[],0⟩
 refine WP.shift (Shift.gh 1 rfl (by decide)) ?_
 (refine zR ?_;(iterate 2 refine sA ?_);refine zN ?_)
 refine RawP.seq hD hro ?_
 (refine zR ?_;refine sA ?_;refine ALK.n (opn_call (wire_Read_fn b) (Evs.cons Ev.a Evs.nil)) rfl ?_;(iterate 6 refine sA ?_);refine zN ?_)
 refine RawP.seq hD hro ?_
 (refine zR ?_;(iterate 2 refine sA ?_);refine zN ?_)
 obtain ⟨q,hq⟩ : ∃ q,q = readS b := ⟨_,rfl⟩
 rw [← hq]
 refine zC (fun h => ?_) (fun h => ?_)
 ·have hne : q.2 ≠ 0 := by simpa using h
  have hr : scriptE b t = q.2 := by unfold scriptE;rw [← hq,if_neg hne]
  have hS : scriptS b t = [] := by unfold scriptS;rw [hr,if_neg hne]
  rw [hr,hS]
  (refine zR ?_;(iterate 3 refine sA ?_);refine zN ?_)
  (repeat apply WP.seq)
  refine WP.ret ?_
  exact RetP.im hG (RetOk.tup Tryz.results8 rfl ResVs.a)
 refine WP.skip ?_
 have h0 : q.2 = 0 := by simpa using h
 clear h
 have hqp : readS b = (q.1,0) := by rw [← hq,← h0]
 obtain ⟨hc,_,hDD⟩ := write_read (b := b) (p := q.1) hqp
 have hB : TxsB q.1.txns := by have := readS_B b;rw [hqp] at this;exact this
 have hI : PlanI q.1 := planD_I hDD
 have hE : scriptE b t = if 4096 < t.length ∨ 40 < cntS t then 2 else if t ≠ [] ∧ t.getLast? ≠ some 10 then 1 else 0 := by unfold scriptE;rw [hqp,if_pos rfl]
 have hno : ∀ e,scriptE b t = e → e ≠ 0 → scriptS b t = [] := fun e h1 h2 => by unfold scriptS;rw [h1,if_neg h2]
 rw [h0]
 refine RawP.seq hD hro ?_
 (refine zR ?_;refine sA ?_;refine ALK.n (opn_lenStr rfl (eB rfl)) rfl ?_;(iterate 2 refine sA ?_);refine gA ?_;refine ALK.g (fun hb => opn_call (Count_fn t) (Evs.cons (eC rfl hb) (Evs.cons (eB rfl) Evs.nil))) rfl rfl rfl ?_;refine gA ?_;refine sA ?_;refine zN ?_)
 refine zC (fun h => ?_) (fun h => ?_)
 ·have hbig : 4096 < t.length ∨ 40 < cntS t := by simp at h;omega
  have hr : scriptE b t = 2 := by rw [hE,if_pos hbig]
  rw [hno _ hr (by decide),hr]
  (refine zR ?_;(iterate 2 refine sA ?_);refine zN ?_)
  (repeat apply WP.seq)
  refine WP.ret ?_
  exact RetP.im hG (RetOk.tup Tryz.results8 rfl ResVs.a)
 refine WP.skip ?_
 have hbig : ¬ (4096 < t.length ∨ 40 < cntS t) := by simp at h;omega
 rw [if_neg hbig] at hE
 have h4096 : t.length ≤ 4096 := by omega
 clear h
 refine RawP.seq hD hro ?_
 (refine zR ?_;refine sA ?_;refine ALK.n (opn_cmpS (a := t) (b := []) (eB rfl) (eB rfl) rfl) rfl ?_;refine sA ?_;refine gA ?_;refine ALK.g (fun hb => opn_call (HasSuffix_fn t (by omega)) (Evs.cons (eC rfl hb) (Evs.cons (eB rfl) Evs.nil))) rfl rfl rfl ?_;refine gA ?_;refine sA ?_;refine zN ?_)
 refine zC (fun h => ?_) (fun h => ?_)
 ·have hbad : t ≠ [] ∧ t.getLast? ≠ some 10 := by simp at h;exact ⟨h.1,h.2⟩
  have hr : scriptE b t = 1 := by rw [hE,if_pos hbad]
  rw [hno _ hr (by decide),hr]
  (refine zR ?_;(iterate 2 refine sA ?_);refine zN ?_)
  (repeat apply WP.seq)
  refine WP.ret ?_
  exact RetP.im hG (RetOk.tup Tryz.results8 rfl ResVs.a)
 refine WP.skip ?_
 have hgood : ¬ (t ≠ [] ∧ t.getLast? ≠ some 10) := by
  rintro ⟨e1,e2⟩
  simp [e1,e2] at h
 have hnl : NL t := by
  by_cases e : t = []
  ·exact .inl e
  ·right
   by_cases e2 : t.getLast? = some 10
   ·exact e2
   ·exact absurd ⟨e,e2⟩ hgood
 have hr : scriptE b t = 0 := by rw [hE,if_neg hgood]
 have hS : scriptS b t = (runQ q.1 (linesS t) ([],dk0 q.1)).1 := by unfold scriptS;rw [hr,if_pos rfl,hqp]
 have hbeg : beginE q.1 zero8 = 0 := by unfold beginE;rw [if_pos hc];rfl
 have hB0 := Begin_fn q.1 zero8 hB
 have hbs : begS q.1 zero8 = beginS q.1 zero8 := if_pos hbeg
 rw [hbs] at hB0
 rw [hr,hS]
 clear h
 refine RawP.seq hD hro ?_
 refine WP.shift (Shift.frzBlk 6 rfl rfl rfl) ?_
 (refine zW ?_;refine sA ?_;refine ALK.a (opa_make (n := 8) (b := 8) (enc := cI) 0 rfl rfl (fun _ => rfl) rfl rfl rfl (eB rfl) (eB rfl) rfl (by omega) (by omega)) rfl ?_;refine ALK.n (opn_build rfl rfl rfl rfl (Pc rfl (eB rfl) Cs.a rfl rfl (Pc rfl (eB rfl) Cs.a rfl rfl Parts.nil))) rfl ?_;refine ALK.a (opa_box (eB rfl) Cs.a) rfl ?_;(iterate 2 refine sA ?_);refine zD ?_)
 refine RawP.seq hD hro ?_
 refine WP.shift (Shift.frzIn 2 2 rfl rfl rfl rfl) ?_
 refine WP.shift (Shift.frzPp 8 rfl rfl) ?_
 (refine zW ?_;refine ALK.n (opn_loadPp rfl rfl (eB rfl) rfl) rfl ?_;refine sA ?_;refine ALK.n (opn_loadPp rfl rfl (eB rfl) rfl) rfl ?_;refine sA ?_;refine fd 2 ?_;refine sA ?_;refine ALK.n (opn_call hB0 (Evs.cons Ev.a (Evs.cons Ev.a Evs.nil))) rfl ?_;(iterate 4 refine sA ?_);refine fd 3 ?_;refine sA ?_;refine zD ?_)
 refine RawP.seq hD hro ?_
 (refine zR ?_;refine sA ?_;refine zN ?_)
 refine RawP.seq2 hD hro ?_
 (refine zR ?_;refine sA ?_;refine ALK.e (ope_callE [] (Lines_new t) EvsS.a rfl rfl rfl HIn.a) rfl rfl ?_;refine zN ?_)
 refine Raw.rangeL (b := 2) (tb := 9) (M := M) (t := t) (σ := [(8,.pp [.off 0 0]),(9,.off 1 0),(51,.fn 43 [.off 2 0]),(ghT,.im (IV.gh M))])
  (plI q.1) (fun i => by cases i <;> rfl) (fun i => by cases i <;> rfl) hD hro
  (Shift.sub [(0,2),(1,4),(2,5)] rfl (SubE.cons rfl (SLe.pp (SLes.cons (SLe.off rfl rfl) SLes.nil)) (SubE.cons rfl (SLe.off rfl rfl) (SubE.cons rfl (SLe.fn (SLes.cons (SLe.off rfl rfl) SLes.nil)) (SubE.cons rfl SLe.a SubE.nil)))) (SubH.cons rfl rfl (ObLe.blk SLes.a) (SubH.cons rfl rfl (ObLe.blk SLes.a) (SubH.cons rfl rfl (ObLe.blk SLes.a) SubH.nil)))) rfl rfl lines_iter hnl ht rfl rfl ?_ ?_
 ·rintro F' hD' ts pre u r hlr
  obtain ⟨Q,hQ⟩ : ∃ Q,Q = runQ q.1 pre ([],dk0 q.1) := ⟨_,rfl⟩
  obtain ⟨g,hlen⟩ := runQ_good hI (ls := pre) (q := ([],dk0 q.1)) (Good.zero hc)
  rw [← hQ] at g hlen
  have h900 := g.len hI u
  have hul : u.length ≤ t.length := linesS_each t u (by rw [hlr];simp)
  have hpl : pre.length ≤ t.length := by
   have := linesS_len t
   rw [hlr,List.length_append] at this
   omega
  have hQ1 : Q.1.length ≤ 901 * 4096 := Nat.le_trans hlen (by rw [List.length_nil,Nat.zero_add];exact Nat.mul_le_mul_left _ (by omega))
  have hl1 : ((lineS q.1 Q.2 u).1 ++ [10]).length ≤ 901 := by rw [List.length_append,List.length_singleton];omega
  have hnx : plI q.1 (pre ++ [u]) = ([(0,imB 65 (cDk q.1 (lineS q.1 Q.2 u).2)),(1,.blk 70 [.off 1 0,.row 3 (Q.1 ++ ((lineS q.1 Q.2 u).1 ++ [10])).length]),(3,.row 5 1 cU8 (Q.1 ++ ((lineS q.1 Q.2 u).1 ++ [10])))],4) := by
   unfold plI
   rw [runQ_snoc,← hQ]
   cases pre <;> rfl
  rw [hnx]
  clear hlr hlen hpl
  cases pre with
  | nil =>
   have hQ0 : Q = ([],dk0 q.1) := hQ
   have hpl : plI q.1 [] = ([(0,imB 65 (cDk q.1 Q.2)),(1,.blk 70 [.im (IV.val (.pointer none)),.im (IV.val (.slice none 0 0))])],4) := by rw [hQ0];rfl
   rw [hpl]
   show WP _ _ _ _ _ ⟨[(52,.im (IV.wth M (IV.str (u ++ [10])))),(8,.is (ts.getD 8 undef) (.pp [.off 0 0])),(9,.is (ts.getD 9 undef) (.off 1 0)),(51,.is (ts.getD 51 undef) (.fn 43 [.off 2 0])),(ghT,.is (ts.getD ghT undef) (.im (IV.gh M)))],[bx 2 9 r,(0,imB 65 (cDk q.1 Q.2)),(1,.blk 70 [.im (IV.val (.pointer none)),.im (IV.val (.slice none 0 0))])],4⟩
   (refine zR ?_;refine sI ?_;refine zN ?_)
   refine ⟨rfl,rfl,fun F2 hD2 => ?_⟩
   refine zB ?_
   (refine zW ?_;refine ALK.n (opn_loadPp rfl rfl (Ev.is rfl) rfl) rfl ?_;refine sI ?_;refine ALK.n (opn_call (Fn.wth (M := M) (TrimSuffix_fn u (by omega))) (Evs.cons (eB rfl) (Evs.cons (eB rfl) Evs.nil))) rfl ?_;refine ALK.e (ope_callE [0] (line_e hM q.1 Q.2 u g hB hI (by omega)) (EvsS.cons (eB rfl) (EvsS.cons (eB rfl) EvsS.nil)) rfl rfl rfl HIn.a) rfl rfl ?_;refine ALK.n (opn_addStr (b := [10]) (eB rfl) (eB rfl) (by rw [List.length_singleton];omega)) rfl ?_;refine ALK.e (ope_callE [1] (ws_fresh ((lineS q.1 Q.2 u).1 ++ [10]) (by omega)) (EvsS.cons (Ev.is rfl) (EvsS.cons (eB rfl) EvsS.nil)) rfl rfl rfl HIn.a) rfl rfl ?_;refine zD ?_)
   refine ⟨rfl,?_⟩
   rw [show Q.1 = [] by rw [hQ0],List.nil_append]
   exact Shift.sub [(0,0),(1,1),(2,2),(3,5)] rfl (SubE.cons rfl (SLe.is (SLe.pp (SLes.cons (SLe.off rfl rfl) SLes.nil))) (SubE.cons rfl (SLe.is (SLe.off rfl rfl)) (SubE.cons rfl (SLe.is (SLe.fn (SLes.cons (SLe.off rfl rfl) SLes.nil))) (SubE.cons rfl (SLe.is (SLe.im ILe.refl)) SubE.nil)))) (SubH.cons rfl rfl (ObLe.blk SLes.a) (SubH.cons rfl rfl (ObLe.blk SLes.a) (SubH.cons rfl rfl (ObLe.blk (SLes.cons (SLe.off rfl rfl) (SLes.cons (SLe.row rfl rfl) SLes.nil))) (SubH.cons rfl rfl (ObLe.row rfl) SubH.nil))))
  | cons x xs =>
   have hpl : plI q.1 (x :: xs) = ([(0,imB 65 (cDk q.1 Q.2)),(1,.blk 70 [.off 1 0,.row 3 Q.1.length]),(3,.row 5 1 cU8 Q.1)],4) := by rw [hQ];rfl
   rw [hpl]
   show WP _ _ _ _ _ ⟨[(52,.im (IV.wth M (IV.str (u ++ [10])))),(8,.is (ts.getD 8 undef) (.pp [.off 0 0])),(9,.is (ts.getD 9 undef) (.off 1 0)),(51,.is (ts.getD 51 undef) (.fn 43 [.off 2 0])),(ghT,.is (ts.getD ghT undef) (.im (IV.gh M)))],[bx 2 9 r,(0,imB 65 (cDk q.1 Q.2)),(1,.blk 70 [.off 1 0,.row 3 Q.1.length]),(3,.row 5 1 cU8 Q.1)],4⟩
   (refine zR ?_;refine sI ?_;refine zN ?_)
   refine ⟨rfl,rfl,fun F2 hD2 => ?_⟩
   refine zB ?_
   (refine zW ?_;refine ALK.n (opn_loadPp rfl rfl (Ev.is rfl) rfl) rfl ?_;refine sI ?_;refine ALK.n (opn_call (Fn.wth (M := M) (TrimSuffix_fn u (by omega))) (Evs.cons (eB rfl) (Evs.cons (eB rfl) Evs.nil))) rfl ?_;refine ALK.e (ope_callE [0] (line_e hM q.1 Q.2 u g hB hI (by omega)) (EvsS.cons (eB rfl) (EvsS.cons (eB rfl) EvsS.nil)) rfl rfl rfl HIn.a) rfl rfl ?_;refine ALK.n (opn_addStr (b := [10]) (eB rfl) (eB rfl) (by rw [List.length_singleton];omega)) rfl ?_;refine ALK.e (ope_callE [1,3] (ws_used Q.1 ((lineS q.1 Q.2 u).1 ++ [10]) (by omega)) (EvsS.cons (Ev.is rfl) (EvsS.cons (eB rfl) EvsS.nil)) rfl rfl rfl HIn.a) rfl rfl ?_;refine zD ?_)
   refine ⟨rfl,?_⟩
   exact Shift.sub [(0,0),(1,1),(2,2),(3,4)] rfl (SubE.cons rfl (SLe.is (SLe.pp (SLes.cons (SLe.off rfl rfl) SLes.nil))) (SubE.cons rfl (SLe.is (SLe.off rfl rfl)) (SubE.cons rfl (SLe.is (SLe.fn (SLes.cons (SLe.off rfl rfl) SLes.nil))) (SubE.cons rfl (SLe.is (SLe.im ILe.refl)) SubE.nil)))) (SubH.cons rfl rfl (ObLe.blk SLes.a) (SubH.cons rfl rfl (ObLe.blk SLes.a) (SubH.cons rfl rfl (ObLe.blk (SLes.cons (SLe.off rfl rfl) (SLes.cons (SLe.row rfl rfl) SLes.nil))) (SubH.cons rfl rfl (ObLe.row rfl) SubH.nil))))
 ·intro F2
  obtain ⟨ls,hls⟩ : ∃ ls,ls = linesS t := ⟨_,rfl⟩
  rw [← hls]
  obtain ⟨Q,hQ⟩ : ∃ Q,Q = runQ q.1 ls ([],dk0 q.1) := ⟨_,rfl⟩
  cases ls with
  | nil =>
   have hpl : plI q.1 [] = ([(0,imB 65 (cDk q.1 Q.2)),(1,.blk 70 [.im (IV.val (.pointer none)),.im (IV.val (.slice none 0 0))])],4) := by rw [hQ];rfl
   have hr1 : (runQ q.1 [] ([],dk0 q.1)).1 = [] := rfl
   rw [hpl,hr1]
   show WP _ _ _ _ _ ⟨[(8,.pp [.off 0 0]),(9,.off 1 0),(51,.fn 43 [.off 2 0]),(ghT,.im (IV.gh M))],[bx 2 9 [],(0,imB 65 (cDk q.1 Q.2)),(1,.blk 70 [.im (IV.val (.pointer none)),.im (IV.val (.slice none 0 0))])],4⟩
   (refine zR ?_;refine ALK.e (ope_callE [1] str_fresh EvsS.a rfl rfl rfl HIn.a) rfl rfl ?_;(iterate 2 refine sA ?_);refine zN ?_)
   (repeat apply WP.seq)
   refine WP.ret ?_
   exact ⟨rfl,rfl,RetP.im hG (RetOk.tup Tryz.results8 rfl ResVs.a)⟩
  | cons x xs =>
   have hpl : plI q.1 (x :: xs) = ([(0,imB 65 (cDk q.1 Q.2)),(1,.blk 70 [.off 1 0,.row 3 Q.1.length]),(3,.row 5 1 cU8 Q.1)],4) := by rw [hQ];rfl
   have hne : Q.1 ≠ [] := by rw [hQ];exact runQ_ne q.1 x xs _
   rw [hpl,← hQ]
   show WP _ _ _ _ _ ⟨[(8,.pp [.off 0 0]),(9,.off 1 0),(51,.fn 43 [.off 2 0]),(ghT,.im (IV.gh M))],[bx 2 9 [],(0,imB 65 (cDk q.1 Q.2)),(1,.blk 70 [.off 1 0,.row 3 Q.1.length]),(3,.row 5 1 cU8 Q.1)],4⟩
   (refine zR ?_;refine ALK.e (ope_callE [1,3] (str_used Q.1 hne) EvsS.a rfl rfl rfl HIn.a) rfl rfl ?_;(iterate 2 refine sA ?_);refine zN ?_)
   (repeat apply WP.seq)
   refine WP.ret ?_
   exact ⟨rfl,rfl,RetP.im hG (RetOk.tup Tryz.results8 rfl ResVs.a)⟩
theorem threeI : PlanI threeP := by
 unfold PlanI TxnI GuardI SetI I64
 decide +kernel
theorem three0 : checkPlan threeP = 0 := by decide +kernel
def begT : List UInt8 := [112,117,116,32,48,32,53,10,112,117,116,32,49,32,49,10,99,97,110,10,114,101,97,100,32,49,32,49,10,114,101,97,100,32,48,32,49,10,97,117,100,105,116,10,114,101,115,116,10,99,97,110,10,115,116,111,114,101,10,97,117,100,105,116,10,112,117,116,32,56,32,49,10,120,10]
def begS' : List UInt8 := [111,107,10,111,107,10,114,101,97,100,32,48,32,48,59,32,114,101,97,100,32,48,32,49,59,32,114,101,97,100,32,50,32,49,10,101,114,114,111,114,32,54,10,111,107,10,101,114,114,111,114,32,56,10,55,10,111,118,101,114,10,50,32,52,32,48,32,48,32,48,32,52,32,48,32,57,10,45,49,10,101,114,114,111,114,32,51,10,101,114,114,111,114,32,49,10]
theorem beg_run : (runQ threeP (linesS begT) ([],dk0 threeP)).1 = begS' := by decide +kernel
theorem beg_E : scriptE (bPlan threeP) begT = 0 := by
 have hr : readS (bPlan threeP) = (threeP,0) := read_write three0 threeI
 unfold scriptE
 rw [hr,if_pos rfl,if_neg (by decide +kernel),if_neg (by decide +kernel)]
theorem beg_S : scriptS (bPlan threeP) begT = begS' := by
 have hr : readS (bPlan threeP) = (threeP,0) := read_write three0 threeI
 unfold scriptS
 rw [if_pos beg_E,hr]
 exact beg_run
end Go.Proofs.YtjgmbgfcffnanabGreatDoor
