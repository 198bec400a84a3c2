/- A range over strings.Lines, whose iterator keeps what is left in a box. The reference: a script. -/
import Derived.Test.YtjgmbgfcffnanaaGreatDoorZ41
set_option maxRecDepth 100000
set_option maxHeartbeats 4000000
namespace Go.Proofs.YtjgmbgfcffnanaaGreatDoor
open Go.RowKit
def IterL (C : Cfg) (gf : FuncId) : Prop :=
 (∃ fn,C.P.funcs[gf]? = some fn ∧ fn.body.isNone = false ∧ (fn.name == "runtime.NumGoroutine") = false) ∧
 ∀ (g l : Nat) (J : List (List UInt8) → List UInt8 → World → Prop) (K : List (List UInt8) → List UInt8 → List UInt8 → World → Prop),
  (∀ pre r W,J pre r W → W.cell? ⟨g,0,none⟩ = some (.string (bS r)) ∧ W.frozen? ⟨g,0,none⟩ = false) →
  (∀ pre r W W',J pre r W → Below W.heap.size W W' → J pre r W') →
  (∀ pre u r W,10 ∉ u → J pre (u ++ 10 :: r) W → K pre u r (W.setCell ⟨g,0,none⟩ (.string (bS r)))) →
  (∀ pre u r W,K pre u r W → YieldAt Fence.wide 7 C.P l #[.string (bS (u ++ [10]))] W fun e W' => e = .returned (.bool true) ∧ J (pre ++ [u]) r W') →
  ∀ (t : List UInt8) (W : World),J [] t W → NL t → t.length ≤ 4611686018427387904 →
  CallsIn Fence.wide 8 C.P gf #[.func (.yield l) #[] #[],.pointer (some ⟨g,0,none⟩)] W fun e W' => (∃ v,e = .returned v) ∧ J (linesS t) [] W'
theorem lines_iter : IterL CC 39 := ⟨⟨_,Tryz.func39,by kernel_rfl,by kernel_rfl⟩,fun g l J K h1 h2 h3 h4 t W h5 h6 h7 => lines_in g l J K h1 h2 h3 h4 t W h5 h6 h7⟩
abbrev bx (b tb : Nat) (r : List UInt8) : Ent := (b,.blk tb [.im (IV.str r)])
theorem hset_none {b : Nat} {o : HObj} : ∀ {H : List Ent},hget H b = none → hset H b o = H
 | [],_ => rfl
 | (i,o0) :: H,h => by
  simp only [hget] at h
  simp only [hset]
  cases e : Nat.beq i b with
  | true => rw [e] at h;cases h
  | false => rw [e] at h;rw [hset_none h]
theorem hset_bx {b tb : Nat} {r r' : List UInt8} {H : List Ent} (h : hget H b = none) : hset (bx b tb r :: H) b (.blk tb [.im (IV.str r')]) = bx b tb r' :: H := by
 simp [hset,bx,hset_none h]
section
variable {C : Cfg} {F : Fx} {nt : Nat} {fn : Func} {x : St} {σ : Env} {R : Value → World → Prop} {b tb fr : Nat} {H : List Ent} {r r' : List UInt8} {μ : Mem} {ρ : Nms} {a : Act} {w w' : World} {g : Nat}
theorem Inv.bx_at (h : Inv F nt ⟨σ,bx b tb r :: H,fr⟩ μ ρ a w) (hb : (ρ b).bind blk = some g) : ρ b = some (.pointer (some ⟨g,0,none⟩)) ∧ μ g = none ∧ w.heap[g]? = some (.cells #[.string (bS r)] tb (0,0)) := by
 obtain ⟨g',us,h1,h2,h3,h4,h5⟩ := h.heap.1 _ List.mem_cons_self
 rw [h1] at hb
 simp only [Option.bind_some,blk,Option.some.injEq] at hb
 subst hb
 unfold SV.Rs at h3
 obtain ⟨u0,q,e1,k0,h3⟩ := h3
 unfold SV.Rs at h3
 subst h3
 have k0 := oi.1 k0
 have : us = #[.string (bS r)] := Array.ext' (by rw [e1,k0])
 exact ⟨h1,h4,by rw [h2,this]⟩
theorem Inv.bx_set (hn : hget H b = none) (h : Inv F nt ⟨σ,bx b tb r :: H,fr⟩ μ ρ a w) (hb : (ρ b).bind blk = some g) : Inv F nt ⟨σ,bx b tb r' :: H,fr⟩ μ ρ a (w.setCell ⟨g,0,none⟩ (.string (bS r'))) := by
 have hm : bx b tb r ∈ bx b tb r :: H := List.mem_cons_self
 obtain ⟨h1,h4,hc⟩ := h.bx_at hb
 have hnew : EntOk ρ μ (w.setCell ⟨g,0,none⟩ (.string (bS r'))) (bx b tb r') := by
  refine ⟨g,#[.string (bS r')],h1,by simp [World.setCell,Array.getElem?_modify,hc],?_,h4,fun u hu => ?_⟩
  ·unfold SV.Rs
   exact ⟨_,_,rfl,oi.2 rfl,by unfold SV.Rs;rfl⟩
  ·simp only [List.mem_cons,List.not_mem_nil,or_false] at hu
   subst hu;rfl
 obtain ⟨q1,q2⟩ := um h.heap h.agr hm (jL w g 0 (.string (bS r'))) (fun k hk => by injection hk with hk;rw [← hk];exact yh (by simp [h1,blk])) hnew rfl
 rw [hset_bx hn] at q1 q2
 exact h.estp (Nat.le_refl _) q1 (fun _ _ h => h) (fun i hi => .inl hi) q2
theorem Raw.rangeL {M : Mem} {id gs p1 : Nat} {assign body rest : Code} {gf : FuncId} {t : List UInt8}
 (I : List (List UInt8) → List Ent × Nat) (hI : ∀ i,plainE (I i).1 = true) (hIb : ∀ i,hget (I i).1 b = none)
 (hD : F.D = []) (_ : F.ro = none) (hx : Shift F nt x ⟨σ,bx b tb t :: (I []).1,(I []).2⟩)
 (hg : lk σ gs = some (.fn gf [.off b 0])) (hgh : lk σ ghT = some (.im (IV.gh M))) (it : IterL C gf) (hNL : NL t) (hlen : t.length ≤ 4611686018427387904)
 (hp1 : lk σ p1 = none) (hpb : Nat.blt p1 nt = true)
 (hround : ∀ F' : Fx,F'.D = [] → ∀ ts pre u r,linesS t = pre ++ u :: linesS r → WP C F' nt assign (fun e y => e = .normal ∧ plainE y.H = true ∧ ∀ F2 : Fx,F2.D = [] → WP C F2 nt body (fun e2 z => e2 = .normal ∧ Shift F2 nt z ⟨isEnv ts σ,bx b tb r :: (I (pre ++ [u])).1,(I (pre ++ [u])).2⟩) y) ⟨(p1,.im (IV.wth M (IV.str (u ++ [10])))) :: isEnv ts σ,bx b tb r :: (I pre).1,(I pre).2⟩)
 (hdone : ∀ F2 : Fx,WP C F2 nt rest (fun e y => e = .ret ∧ plainE y.H = true ∧ RetP C F nt fn R y) ⟨σ,bx b tb [] :: (I (linesS t)).1,(I (linesS t)).2⟩) :
 Raw C F nt (.block id (.rangeFunc (.tmp gs) #[p1] assign body)) (Exit.then (rest.wpIn Fence.wide 9 C.P (FnRawP C F fn R)) (FnRawP C F fn R)) x := by
 intro μ0 ρ0 a w hi0
 obtain ⟨μ,ρ,hi⟩ := hx _ _ _ _ hi0
 clear hi0 hx
 have hPI : ∀ pre r,plainE (bx b tb r :: (I pre).1) = true := fun pre r => hI pre
 have b1 : p1 < nt := by simpa using hpb
 have hgf := hi.env gs _ hg
 unfold SV.R at hgf
 obtain ⟨vs,hvs,hcap⟩ := hgf
 unfold SV.Rs at hcap
 obtain ⟨v0,vs',rfl,hv0,hcap⟩ := hcap
 unfold SV.Rs at hcap
 subst hcap
 unfold SV.R at hv0
 obtain ⟨g,hb0,rfl⟩ := hv0
 have hbAt : ∀ {pre : List (List UInt8)} {r : List UInt8} {μ' : Mem} {ρ' : Nms} {W : World},Inv F nt ⟨σ,bx b tb r :: (I pre).1,(I pre).2⟩ μ' ρ' a W → (ρ' b).bind blk = some g := fun h => by
  have h1 := h.env gs _ hg
  unfold SV.R at h1
  obtain ⟨vs,e,hc⟩ := h1
  unfold SV.Rs at hc
  obtain ⟨v0,vs',rfl,hv0,hc⟩ := hc
  unfold SV.Rs at hc
  subst hc
  unfold SV.R at hv0
  obtain ⟨g',k0,rfl⟩ := hv0
  rw [hvs] at e
  injection e with _ _ e
  simp only [List.cons.injEq,Array.mk.injEq,Value.pointer.injEq,Option.some.injEq,Addr.mk.injEq,and_true] at e
  rw [e];exact k0
 obtain ⟨⟨gn,k1,k2,k3⟩,hit⟩ := it
 have hsize := hi.size
 refine wpIn_block ?_
 refine wpIn_rangeFunc ?_
 intro fid hfid
 obtain ⟨rec,hrec⟩ : ∃ rec : LoopState → Option Code → Loop,rec = fun st pe => { state := st,pending := pe,fn := fid,tmps := a.tmps,params := #[p1],assign,body,defers := w.heap.size } := ⟨_,rfl⟩
 obtain ⟨W1,hW1⟩ : ∃ W1,(w.alloc (.deferred (some []))).alloc (.loop (rec .ready none)) = W1 := ⟨_,rfl⟩
 have hL1 : W1.heap[w.heap.size + 1]? = some (.loop (rec .ready none)) := by
  rw [← hW1];have := World.alloc_heap_new (w.alloc (.deferred (some []))) (.loop (rec .ready none));rwa [World.size_alloc] at this
 have hK1 : W1.heap[w.heap.size]? = some (.deferred (some [])) := by
  rw [← hW1];exact (Below.heap_alloc _ _ _ (by simp)).trans (World.alloc_heap_new w _)
 have hsz1 : W1.heap.size = w.heap.size + 2 := by rw [← hW1];simp
 have hbel : Below w.heap.size w W1 := by rw [← hW1];exact ((Below.refl _ w).alloc (Nat.le_refl _) _).alloc (by simp) _
 have hi1 : Inv F nt ⟨σ,bx b tb t :: (I []).1,(I []).2⟩ μ ρ a W1 := hi.grown (hPI _ _) ⟨hbel.os,hbel.tape,hbel.output,hbel.size,fun k hk _ => hbel.block k hk⟩ (row := none) (fun r e => by cases e)
 have grow : ∀ {pre : List (List UInt8)} {r : List UInt8} {A B : World} {row : Option Nat} {μ' : Mem} {ρ' : Nms},Inv F nt ⟨σ,bx b tb r :: (I pre).1,(I pre).2⟩ μ' ρ' a A → A.grownBy B row → (∀ r,row = some r → w.heap.size ≤ r ∧ ∃ o : Obj,A.heap[r]? = some o ∧ o.isCells = false) → Inv F nt ⟨σ,bx b tb r :: (I pre).1,(I pre).2⟩ μ' ρ' a B := fun h hgr hr => h.grown (hPI _ _) hgr fun r e => ⟨Nat.le_trans hi.hsize (hr r e).1,(hr r e).2⟩
 refine ⟨w.heap.size + 1,[{ target := .collected w.heap.size,args := #[] }],W1,{ target := .fn (.func gf) #[.pointer (some ⟨g,0,none⟩)],args := #[.func (.yield (w.heap.size + 1)) #[] #[]] },W1,gf,
  #[.func (.yield (w.heap.size + 1)) #[] #[],.pointer (some ⟨g,0,none⟩)],W1,?_,?_,?_,?_,(fun h => by cases h),?_⟩
 ·rw [← hW1,hrec];exact run_enterLoop_outer _ _ _ _ _
 ·have : a.eval (.tmp gs) = .func (.func gf) #[] #[.pointer (some ⟨g,0,none⟩)] := hvs
  simp only [resolve,this]
  simp [go_sem]
 ·intro f' _;trivial
 ·simp [invoke,go_sem,oX k1 k2 k3]
 refine (hit g (w.heap.size + 1)
  (fun pre r W => (linesS t = pre ++ linesS r ∧ ∃ μ' ρ',Inv F nt ⟨σ,bx b tb r :: (I pre).1,(I pre).2⟩ μ' ρ' a W) ∧ W.heap[w.heap.size + 1]? = some (.loop (rec .ready none)) ∧ W.heap[w.heap.size]? = some (.deferred (some [])))
  (fun pre u r W => (linesS t = pre ++ u :: linesS r ∧ ∃ μ' ρ',Inv F nt ⟨σ,bx b tb r :: (I pre).1,(I pre).2⟩ μ' ρ' a W) ∧ W.heap[w.heap.size + 1]? = some (.loop (rec .ready none)) ∧ W.heap[w.heap.size]? = some (.deferred (some [])))
  ?_ ?_ ?_ ?_ t W1 ⟨⟨rfl,μ,ρ,hi1⟩,hL1,hK1⟩ hNL hlen).mono ?_
 ·rintro pre r W ⟨⟨_,μ',ρ',h3⟩,_,_⟩
  obtain ⟨_,_,h4⟩ := h3.bx_at (hbAt h3)
  exact ⟨by rw [Lib.cell_of_heap h4];rfl,Lib.frozen_of_heap h4 0⟩
 ·rintro pre r A B ⟨⟨he,μ',ρ',h3⟩,hl,hk⟩ hAB
  exact ⟨⟨he,μ',ρ',grow h3 ⟨hAB.os,hAB.tape,hAB.output,hAB.size,fun k hk _ => hAB.block k hk⟩ (row := none) (fun r e => by cases e)⟩,(hAB.block _ (Array.getElem?_eq_some_iff.1 hl).1).trans hl,(hAB.block _ (Array.getElem?_eq_some_iff.1 hk).1).trans hk⟩
 ·rintro pre u r W hu ⟨⟨he,μ',ρ',h3⟩,hl,hk⟩
  obtain ⟨_,_,h4⟩ := h3.bx_at (hbAt h3)
  refine ⟨⟨by rw [he,linesS_at r hu],μ',ρ',h3.bx_set (hIb _) (hbAt h3)⟩,?_,?_⟩
  ·rw [← hl]
   refine Below.heap_setCell _ _ _ _ (fun e => ?_)
   rw [e] at hl;rw [h4] at hl;cases hl
  ·rw [← hk]
   refine Below.heap_setCell _ _ _ _ (fun e => ?_)
   rw [e] at hk;rw [h4] at hk;cases hk
 ·rintro pre u r W ⟨⟨he,μ',ρ',h3⟩,hl,hk⟩
  have hy := run_yield (P := C.P) (args := #[.string (bS (u ++ [10]))]) hl (by rw [hrec];rfl)
  rw [hrec] at hy
  refine ⟨fid,_,assign,body,hy,roundIn_of_wpIn hfid ?_⟩
  have henv : EnvOk ρ' μ' ((p1,.im (IV.wth M (IV.str (u ++ [10])))) :: isEnv a.tmps σ) (a.tmps.setIfInBounds p1 (.string (bS (u ++ [10])))) :=
   EnvOk.cons h3.env.is (by omega) (vB hp1) (oi.2 ⟨rfl,oi.1 (h3.env ghT _ hgh)⟩)
  have h5 := h3.here (D := []) (ro := some (w.heap.size + 1)) (a1 := { tmps := a.tmps.setIfInBounds p1 (.string (bS (u ++ [10]))),defers := [] }) (by simp;exact hsize) rfl henv
  have h6 := hround _ rfl a.tmps pre u r he μ' ρ' _ W h5
  have e0 : (((#[p1].zip #[Value.string (bS (u ++ [10]))]).foldl (fun t (q : Tmp × Value) => t.setIfInBounds q.1 q.2) a.tmps)) = a.tmps.setIfInBounds p1 (.string (bS (u ++ [10]))) := by simp
  have e0' : (((#[p1].zip #[Value.string (bS (u ++ [10]))]).foldl (fun t (p,v) => t.setIfInBounds p v) a.tmps)) = a.tmps.setIfInBounds p1 (.string (bS (u ++ [10]))) := e0
  rw [e0']
  refine wpIn_mono (fen_n h6) ?_
  rintro e a2 Wa ⟨y,μ2,ρ2,⟨rfl,hpy,hbody⟩,hyi⟩
  have hback := h3.back hyi (a1 := a2) hyi.size (by rw [hD];exact hyi.defers) hyi.env
  have hka := keeps_of h3 (hPI _ _) hyi
  have hla := hka.same _ _ hl rfl
  have hkka := hka.same _ _ hk rfl
  refine ⟨_,run_beginRound hla (by rw [hrec]),?_⟩
  have hlt : w.heap.size + 1 < Wa.heap.size := (Array.getElem?_eq_some_iff.1 hla).1
  have hb2 := hback.grown hpy (w' := Wa.putObj (w.heap.size + 1) (.loop { rec .ready none with state := .busy })) (grownBy_putObj' Wa (w.heap.size + 1) _) (fun r e => by cases e;exact ⟨Nat.le_trans hi.hsize (by omega),_,hla,rfl⟩)
  have hl2 : (Wa.putObj (w.heap.size + 1) (.loop { rec .ready none with state := .busy })).heap[w.heap.size + 1]? = some (.loop { rec .ready none with state := .busy }) := World.putObj_heap_same hlt
  have hk2 : (Wa.putObj (w.heap.size + 1) (.loop { rec .ready none with state := .busy })).heap[w.heap.size]? = some (.deferred (some [])) := (World.putObj_heap_other (by omega)).trans hkka
  have h7 := hb2.here (D := []) (ro := some (w.heap.size + 1)) (a1 := a2) hyi.size hyi.defers hyi.env
  have h8 := hbody _ rfl μ2 ρ2 _ _ h7
  refine wpIn_mono (fen_n h8) ?_
  rintro e3 a3 W3 ⟨z,μ3,ρ3,⟨rfl,hs⟩,hz⟩
  obtain ⟨μ4,ρ4,h9⟩ := hs _ _ _ _ hz
  have hk3 := keeps_of hb2 hpy h9
  have hl3 := hk3.same _ _ hl2 rfl
  have hkk3 := hk3.same _ _ hk2 rfl
  have hend := run_endRound (P := C.P) (none : Option Code) hl3
  have hfin := hb2.back h9 (a1 := a) hsize hi.defers h9.env.unis
  have hlt3 := (Array.getElem?_eq_some_iff.1 hl3).1
  have hfin2 := grow (pre := pre ++ [u]) hfin (grownBy_putObj' W3 (w.heap.size + 1) (.loop { { rec .ready none with state := .busy } with state := if (none : Option Code).isNone then .ready else .done,pending := none })) (fun r e => by cases e;exact ⟨by omega,_,hl3,rfl⟩)
  refine ⟨_,_,hend,rfl,⟨by rw [he];simp,μ4,ρ4,hfin2⟩,?_,(World.putObj_heap_other (by omega)).trans hkk3⟩
  rw [World.putObj_heap_same hlt3,hrec]
  rfl
 ·rintro e W2 ⟨⟨v,rfl⟩,⟨he,μ',ρ',h3⟩,hl,hk⟩
  refine ⟨none,_,by have := run_endLoop (P := C.P) hl (by rw [hrec];simp);rw [hrec] at this;exact this,?_⟩
  have hlt : w.heap.size + 1 < W2.heap.size := (Array.getElem?_eq_some_iff.1 hl).1
  have hb3 := grow h3 (grownBy_putObj' W2 (w.heap.size + 1) (.loop { rec .ready none with state := .exhausted })) (fun r e => by cases e;exact ⟨by omega,_,hl,rfl⟩)
  have hDW : (W2.putObj (w.heap.size + 1) (.loop { rec .ready none with state := .exhausted })).heap[w.heap.size]? = some (.deferred (some [])) := (World.putObj_heap_other (by omega)).trans hk
  have h5 := hb3.here (D := [{ target := .collected w.heap.size,args := #[] }]) (ro := none) (a1 := { a with defers := { target := .collected w.heap.size,args := #[] } :: a.defers }) (σ := σ) hsize (by show _ :: a.defers = _;rw [hi.defers,hD]) hb3.env
  have h6 := hdone _ μ' ρ' _ _ h5
  rw [hrec] at h6 hDW hb3
  refine wpIn_mono h6 ?_
  rintro e a' W' ⟨y,μ'',ρ'',⟨rfl,hpz,hr⟩,hy⟩
  exact leavesP_mark hb3 (hPI _ _) hi.hsize hDW hy hpz hr
theorem Fn.wth {M : Mem} {f : FuncId} {s0 r0 : IV} {args : List IV} (h : Fn C f (s0 :: args) r0) : Fn C f (IV.wth M s0 :: args) (IV.wth M r0) := ⟨h.1,fun μ w vs hvs ha => by
 obtain ⟨v0,vs',rfl,h0,hvs⟩ := hvs
 refine (h.2 μ w (v0 :: vs') ⟨v0,vs',rfl,h0.1,hvs⟩ ha).mono ?_
 rintro e w' ⟨v,μ',rfl,h1,h2⟩
 exact ⟨v,μ',rfl,⟨h1,fun b c hb => h2.le _ _ (h0.2 _ _ hb)⟩,h2⟩⟩
def ImOut (F : Fx) (s : IV) (v : Value) (w : World) : Prop := ∃ μ',s.p μ' v ∧ Stp F.μ0 F.w0 μ' w
theorem RetP.im {s : IV} {y : St} (hG : ∀ g,¬ F.G g) (h : RetOk C F nt fn s y) : RetP C F nt fn (ImOut F s) y := fun μ ρ a w hy => by
 obtain ⟨v,ν,h1,h2,h3,h4,h5⟩ := h μ ρ a w hy
 exact ⟨v,h1,ν,h2,⟨⟨hy.os,hy.tape,hy.output,hy.hsize,fun k hk => hy.block k hk (hG k)⟩,h3,fun b hb => (h4 b hb).imp id (fun hx => hx.elim id (fun hf => (hG _ hf).elim)),h5⟩⟩
theorem Fn.of_rawP {f : FuncId} {c : Code} {args : List IV} {s : IV} (nt : Nat) (hf : C.P.funcs[f]? = some fn) (hb : fn.body = some c) (hname : (fn.name == "runtime.NumGoroutine") = false) (hnt : fn.ntmps = nt) (hn : Nat.ble args.length nt = true)
 (h : ∀ F : Fx,F.D = [] → F.ro = none → (∀ g,¬ F.G g) → Raw C F nt c (FnRawP C F fn (ImOut F s)) ⟨env0 0 args,[],0⟩) : Fn C f args s := by
 refine ⟨⟨fn,hf,by rw [hb];rfl,hname⟩,fun μ w vs hvs ha => ?_⟩
 have hlen := hvs.length
 have hle := Nat.le_of_ble_eq_true hn
 refine Calls.mono (callsIn_wide.1 (callsIn_of_wp_marks (n := 9) (R := fun e w' => ∃ v,e = .returned v ∧ ImOut ⟨w,μ,fun _ => False,[],none⟩ s v w') hf hb trivial ?_)) ?_
 ·refine h ⟨w,μ,fun _ => False,[],none⟩ rfl rfl (fun _ h => h) μ (fun _ => none) _ w ?_
  refine ⟨by simp;omega,rfl,fun t s hs => ?_,ha,⟨(fun e he => by cases he),(fun e he => by cases he)⟩,fun i hi => absurd rfl hi,rfl,rfl,rfl,Nat.le_refl _,fun _ _ _ => rfl,Mem.le.refl _,fun b hb => .inl hb,(fun e he => by cases he)⟩
  obtain ⟨j,s',h1,h2,rfl⟩ := qr hs
  rw [Nat.zero_add] at h1
  subst h1
  obtain ⟨v,h3,h4⟩ := hvs.get h2
  have hj : t < vs.length := (List.getElem?_eq_some_iff.1 h3).1
  refine oi.2 ?_
  have : (vs.toArray ++ Array.replicate (fn.ntmps - vs.toArray.size) undef).getD t undef = v := by
   rw [Array.getD_eq_getD_getElem?,Array.getElem?_append_left (by simpa using hj)]
   simp [h3]
  rw [this];exact h4
 ·rintro e w' ⟨v,rfl,μ',h1,h2⟩
  exact ⟨v,μ',rfl,h1,h2⟩
end
theorem Lines_new (t : List UInt8) : FnE CC 11 0 [.im (IV.str t)] [] (.fn 39 [.off 0 0]) [bx 0 9 t] 1 [] := by
 refine FnE.of_wp _ [] Tryz.func11 rfl (by kernel_rfl) Tryz.ntmps11 rfl rfl rfl rfl rfl rfl rfl rfl rfl ?_
 intro F vs hD hvs
 obtain ⟨v0,rfl⟩ := len1 hvs
 show WP _ _ _ _ _ ⟨[(0,.im (IV.str t))],[],0⟩
 (refine zR ?_;refine ALK.a (uT (eB rfl) Cs.a) rfl ?_;refine sA ?_;refine zN ?_)
 (refine zR ?_;refine ALK.n (oN (l := [.off 0 0]) EvsS.a) rfl ?_;refine sA ?_;refine zN ?_)
 exact zT Tryz.results11
theorem opn_leStr {C : Cfg} {σ : Env} {o : Oper} {a b : List UInt8} (h : OpN C o σ (.im (IV.str a))) (e : a = b) : OpN C o σ (.im (IV.str b)) := e ▸ h
theorem ref_ScriptOf_fn (b t : List UInt8) (ht : t.length ≤ 4611686018427387904) : Fn CC 5 [IV.str b,IV.str t] (IV.tup [IV.str (scriptS b t),IV.int (scriptE b t)]) := by
 have hno : ∀ e,scriptE b t = e → e ≠ 0 → scriptS b t = [] := fun e h1 h2 => by unfold scriptS;rw [h1,if_neg h2]
 refine Fn.of_wp _ Tryz.func5 rfl (by kernel_rfl) Tryz.ntmps5 rfl ?_
 intro F hD hG
 (refine zR ?_;(iterate 2 refine sA ?_);refine zN ?_)
 (refine zR ?_;refine sA ?_;refine ALK.n (oJ rfl (eB rfl)) rfl ?_;refine sA ?_;refine zN ?_)
 refine zC (fun h => ?_) (fun h => ?_)
 ·have hl : 4096 < b.length := by simp at h;omega
  have hr : scriptE b t = 2 := by unfold scriptE readS;rw [if_pos hl];rfl
  rw [hno _ hr (by decide),hr]
  (refine zR ?_;(iterate 2 refine sA ?_);refine zN ?_)
  exact zT Tryz.results5
 refine zS ?_
 have hl : ¬ 4096 < b.length := by simp at h;omega
 clear h
 have hr0 := read_from hl
 (refine zR ?_;refine sA ?_;refine ALK.n (o3 (ref_PlanFrom_fn b) (Evs.cons Ev.a Evs.nil)) rfl ?_;(iterate 6 refine sA ?_);refine zN ?_)
 obtain ⟨q,hq⟩ : ∃ q,q = fromS b := ⟨_,rfl⟩
 rw [← hq] at hr0 ⊢
 refine WP.shift (Shift.frzBlk 6 rfl rfl rfl) ?_
 (refine zR ?_;(iterate 2 refine sA ?_);refine zN ?_)
 refine zC (fun h => ?_) (fun h => ?_)
 ·have h2 : q.2 = false := by simpa using h
  have hr : scriptE b t = 1 := by unfold scriptE;rw [hr0,h2];rfl
  rw [hno _ hr (by decide),hr]
  (refine zR ?_;(iterate 2 refine sA ?_);refine zN ?_)
  exact zT Tryz.results5
 refine zS ?_
 have h2 : q.2 = true := by simpa using h
 rw [h2,if_pos rfl] at hr0
 obtain ⟨hc,_,hD⟩ := write_read (b := b) (p := q.1) hr0
 have hB : TxsB q.1.txns := by have := readS_B b;rw [hr0] at this;exact this
 have hI : PlanI q.1 := planD_I hD
 have hE : scriptE b t = if 4096 < t.length ∨ 40 < cntS t then 2 else if t ≠ [] ∧ t.getLast? ≠ some 10 then 1 else 0 := by unfold scriptE;rw [hr0,if_pos rfl]
 clear h
 (refine zR ?_;refine sA ?_;refine zN ?_)
 (refine zR ?_;refine sA ?_;refine zN ?_)
 refine zB ?_
 refine WP.loop (fun i : Nat => ⟨[(9,.im (IV.int i)),(8,.im (IV.int ((t.take i).count 10))),(1,.im (IV.str t)),(6,.im (IV.ptr (cP q.1)))],[],1⟩) (fun i => i ≤ t.length ∧ (t.take i).count 10 ≤ 41) (fun i => t.length - i) 0 ⟨Nat.zero_le _,by simp⟩ (Shift.sub [] rfl (SubE.cons rfl SLe.a (SubE.cons rfl (SLe.im (ILe.int rfl)) SubE.a)) SubH.nil) ?_
 rintro i ⟨hi,hi2⟩
 (refine zR ?_;(iterate 2 refine sA ?_);refine ALK.n (oJ rfl (eB rfl)) rfl ?_;(iterate 2 refine sA ?_);(iterate 2 refine gA ?_);refine sA ?_;refine zN ?_)
 refine zC (fun h => ?_) (fun h => ?_)
 ·refine zS ?_
  obtain ⟨hlt,hle⟩ : i < t.length ∧ (t.take i).count 10 ≤ 40 := by simp at h;omega
  obtain ⟨c,hcb⟩ := oc hlt
  have hcb' : t[((i : Nat) : Int).toNat]? = some c := by simpa using hcb
  have hn := count_next hcb
  clear h
  refine zB ?_
  (refine zR ?_;(iterate 2 refine sA ?_);refine ALK.n (yd rfl (eB rfl) (eB rfl) (by omega) (by assumption)) rfl ?_;refine ALK.n (qE (b := 10) (eB rfl) (eB rfl) rfl rfl) rfl ?_;refine zN ?_)
  refine zC (fun h => ?_) (fun h => ?_)
  ·have h10 : c = 10 := by simpa using h
   rw [if_pos h10] at hn
   (refine zR ?_;(iterate 3 refine sA ?_);refine zN ?_)
   (refine zR ?_;(iterate 3 refine sA ?_);refine zN ?_)
   show ∃ _,_ ∧ _ ∧ _
   exact ⟨i + 1,⟨by omega,by omega⟩,by omega,Shift.sub [] rfl (SubE.cons rfl SLe.a (SubE.cons rfl (SLe.im (ILe.int (by rw [hn];rfl))) SubE.a)) SubH.nil⟩
  ·have h10 : ¬ c = 10 := by simpa using h
   rw [if_neg h10] at hn
   refine zS ?_
   (refine zR ?_;(iterate 3 refine sA ?_);refine zN ?_)
   show ∃ _,_ ∧ _ ∧ _
   exact ⟨i + 1,⟨by omega,by omega⟩,by omega,Shift.sub [] rfl (SubE.cons rfl SLe.a (SubE.cons rfl (SLe.im (ILe.int (by rw [hn];rfl))) SubE.a)) SubH.nil⟩
 refine zE ?_
 have hend : ¬ (i < t.length ∧ (t.take i).count 10 ≤ 40) := by simp at h;omega
 have hcle := count_take_le t i
 have hce : i = t.length → (t.take i).count 10 = cntS t := fun e => by subst e;rw [List.take_length];rfl
 clear h
 (refine zR ?_;refine sA ?_;refine ALK.n (oJ rfl (eB rfl)) rfl ?_;(iterate 2 refine sA ?_);(iterate 2 refine gA ?_);refine sA ?_;refine zN ?_)
 refine zC (fun h => ?_) (fun h => ?_)
 ·have hbig : 4096 < t.length ∨ 40 < cntS t := by simp at h;omega
  have hr : scriptE b t = 2 := by rw [hE,if_pos hbig]
  rw [hno _ hr (by decide),hr]
  (refine zR ?_;(iterate 2 refine sA ?_);refine zN ?_)
  exact zT Tryz.results5
 refine zS ?_
 have hbig : ¬ (4096 < t.length ∨ 40 < cntS t) := by simp at h;omega
 rw [if_neg hbig] at hE
 have h4096 : t.length ≤ 4096 := by omega
 clear h
 have hlast : ∀ c,t[t.length - 1]? = some c → t.getLast? = some c := fun c h => by rw [List.getLast?_eq_getElem?];exact h
 (repeat apply WP.seq)
 refine WP.to ⟨[(58,.im (IV.bool (decide (t ≠ [] ∧ t.getLast? ≠ some 10)))),(1,.im (IV.str t)),(6,.im (IV.ptr (cP q.1)))],[],1⟩ ?_ ?_
 ·rcases Nat.eq_zero_or_pos t.length with h0 | h0
  ·obtain rfl := List.eq_nil_of_length_eq_zero h0
   (refine zR ?_;refine sA ?_;refine ALK.n (oJ rfl (eB rfl)) rfl ?_;(iterate 2 refine sA ?_);refine ALK.g (s := .im IV.any) (fun hb => absurd hb (by first | (simp [gd];done) | (simp [gd];omega) | (simp_all [gd];done))) rfl rfl rfl ?_;refine ALK.g (s := .im IV.any) (fun hb => absurd hb (by first | (simp [gd];done) | (simp [gd];omega) | (simp_all [gd];done))) rfl rfl rfl ?_;refine ALK.g (s := .im IV.any) (fun hb => absurd hb (by first | (simp [gd];done) | (simp [gd];omega) | (simp_all [gd];done))) rfl rfl rfl ?_;refine ALK.g (s := .im IV.any) (fun hb => absurd hb (by first | (simp [gd];done) | (simp [gd];omega) | (simp_all [gd];done))) rfl rfl rfl ?_;refine ALK.g (s := .im IV.any) (fun hb => absurd hb (by first | (simp [gd];done) | (simp [gd];omega) | (simp_all [gd];done))) rfl rfl rfl ?_;refine ALK.g (s := .im IV.any) (fun hb => absurd hb (by first | (simp [gd];done) | (simp [gd];omega) | (simp_all [gd];done))) rfl rfl rfl ?_;refine ALK.n (yU (eB rfl) (eB rfl)) rfl ?_;refine zN ?_)
   exact ⟨rfl,Shift.sub [] rfl (SubE.cons rfl (SLe.im (ILe.bool (by simp))) SubE.a) SubH.nil⟩
  ·obtain ⟨c,hcb⟩ := oc (xs := t) (k := t.length - 1) (by omega)
   have hcb' : t[((t.length : Int) - 1).toNat]? = some c := by
    rw [← hcb];congr 1;omega
   have hg := hlast c hcb
   have hne : t ≠ [] := fun e => by subst e;simp at h0
   (refine zR ?_;refine sA ?_;refine ALK.n (oJ rfl (eB rfl)) rfl ?_;(iterate 2 refine sA ?_);refine ALK.ny (o4 (eB rfl)) rfl rfl (by simp [gd];omega) rfl ?_;refine ALK.ny (o4 (eB rfl)) rfl rfl (by simp [gd];omega) rfl ?_;refine ALK.ny (oJ rfl (eB rfl)) rfl rfl (by simp [gd];omega) rfl ?_;refine ALK.ny (oo (eB rfl) (eB rfl) (yq rfl (by omega) (by omega))) rfl rfl (by simp [gd];omega) rfl ?_;refine ALK.ny (yd rfl (eB rfl) (eB rfl) (by omega) hcb') rfl rfl (by simp [gd];omega) rfl ?_;refine ALK.ny (qE (b := 10) (eB rfl) (eB rfl) rfl rfl) rfl rfl (by simp [gd];omega) rfl ?_;refine ALK.n (u5 (eB rfl) (eB rfl) (eB rfl)) rfl ?_;refine zN ?_)
   refine ⟨rfl,Shift.sub [] rfl (SubE.cons rfl (SLe.im (ILe.bool ?_)) SubE.a) SubH.nil⟩
   rw [hg]
   by_cases e : c = 10
   ·subst e;simp
   ·have : (0 : Int) < t.length := by omega
    simp [e,hne,h0]
 show WP _ _ _ _ _ _
 refine zC (fun h => ?_) (fun h => ?_)
 ·have hbad : t ≠ [] ∧ t.getLast? ≠ some 10 := by simpa using h
  have hr : scriptE b t = 1 := by rw [hE,if_pos hbad]
  rw [hno _ hr (by decide),hr]
  (refine zR ?_;(iterate 2 refine sA ?_);refine zN ?_)
  exact zT Tryz.results5
 refine zS ?_
 have hgood : ¬ (t ≠ [] ∧ t.getLast? ≠ some 10) := by
  intro e
  rw [decide_eq_true e] at h
  cases h
 have hnl : NL t := by
  by_cases e : t = []
  ·exact .inl e
  ·right
   by_cases e2 : t.getLast? = some 10
   ·exact e2
   ·exact absurd ⟨e,e2⟩ hgood
 have hr : scriptE b t = 0 := by rw [hE,if_neg hgood]
 have hS : scriptS b t = (runQ q.1 (linesS t) ([],dk0 q.1)).1 := by unfold scriptS;rw [hr,if_pos rfl,hr0]
 have hbeg : beginE q.1 zero8 = 0 := by unfold beginE;rw [if_pos hc];rfl
 rw [hr,hS]
 clear h
 (refine zR ?_;refine ALK.e (OpE.frz (OpE.ofA (yS (n := 8) (b := 8) (enc := cI) 0 rfl rfl (fun _ => rfl) rfl rfl rfl (eB rfl) (eB rfl) rfl (by omega) (by omega))) rfl) rfl rfl ?_;refine sA ?_;refine zN ?_)
 (refine zW ?_;(iterate 4 refine sA ?_);refine ALK.n (o3 (BeginOf_fn q.1 zero8 hbeg) (Evs.cons Ev.a (Evs.cons Ev.a Evs.nil))) rfl ?_;refine sA ?_;refine ALK.a (uT (eB rfl) Cs.a) rfl ?_;refine sA ?_;refine zD ?_)
 (refine zR ?_;refine sA ?_;refine zN ?_)
 (refine zR ?_;refine sA ?_;refine zN ?_)
 (refine zR ?_;refine sA ?_;refine zN ?_)
 refine zB ?_
 refine WP.loop (fun c : Nat × Nat => ⟨[(14,.im (IV.int c.1)),(13,.im (IV.int c.2)),(12,.im (IV.str (atQ q.1 t c.2).1)),(11,.off 0 0),(1,.im (IV.str t))],tabH 62 q.1 (atQ q.1 t c.2).2,1⟩) (fun c => c.1 ≤ t.length ∧ c.2 ≤ c.1 ∧ NL (t.take c.2) ∧ 10 ∉ (t.take c.1).drop c.2) (fun c => t.length - c.1) (0,0) ⟨Nat.zero_le _,Nat.le_refl _,.inl rfl,by simp⟩ (Shift.sub [(0,2)] rfl SubE.a (SubH.cons rfl rfl (ObLe.blk SLes.a) SubH.nil)) ?_
 rintro ⟨i,f⟩ ⟨hi,hf,hnf,hu⟩
 simp only at hi hf hnf hu
 obtain ⟨g,hlen⟩ := atQ_good hc hI t f
 (refine zR ?_;(iterate 2 refine sA ?_);refine ALK.n (oJ rfl (eB rfl)) rfl ?_;refine sA ?_;refine zN ?_)
 refine zC (fun h => ?_) (fun h => ?_)
 ·refine zS ?_
  have hlt : i < t.length := by simpa using h
  obtain ⟨c,hcb⟩ := oc hlt
  have hcb' : t[((i : Nat) : Int).toNat]? = some c := by simpa using hcb
  clear h
  refine zB ?_
  (refine zR ?_;(iterate 2 refine sA ?_);refine ALK.n (yd rfl (eB rfl) (eB rfl) (by omega) (by assumption)) rfl ?_;refine ALK.n (qE (b := 10) (eB rfl) (eB rfl) rfl rfl) rfl ?_;refine zN ?_)
  refine zC (fun h => ?_) (fun h => ?_)
  ·have h10 : c = 10 := by simpa using h
   subst h10
   obtain ⟨hst,hn2⟩ := atQ_step (p := q.1) hf hnf hu hcb
   obtain ⟨ln,hln⟩ : ∃ ln,ln = (t.take i).drop f := ⟨_,rfl⟩
   have hll : ln.length ≤ 4096 := by rw [hln,List.length_drop,List.length_take];omega
   have h900 := g.len hI ln
   rw [← hln] at hst
   obtain ⟨Q,hQ⟩ : ∃ Q,Q = atQ q.1 t f := ⟨_,rfl⟩
   rw [← hQ] at g hlen hst h900 ⊢
   have hf2 : 901 * f ≤ 901 * 4096 := Nat.mul_le_mul_left _ (by omega)
   (refine zR ?_;(iterate 5 refine sA ?_);refine ALK.n (opn_leStr (b := ln) (qB (i := f) (j := i) rfl (eB rfl) (eB rfl) (eB rfl) hf (by omega)) hln.symm) rfl ?_;refine ALK.e (o5 [0] (ref_given_fn q.1 Q.2 ln g hB hI (by omega)) EvsS.a rfl rfl rfl HIn.a) rfl rfl ?_;refine ALK.n (ol (eB rfl) (eB rfl) (by omega)) rfl ?_;refine ALK.n (ol (b := [10]) (eB rfl) (eB rfl) (by simp;omega)) rfl ?_;refine sA ?_;refine zN ?_)
   (refine zR ?_;(iterate 3 refine sA ?_);refine zN ?_)
   (refine zR ?_;(iterate 3 refine sA ?_);refine zN ?_)
   show ∃ _,_ ∧ _ ∧ _
   refine ⟨(i + 1,i + 1),⟨by simp only;omega,Nat.le_refl _,hn2,by simp⟩,by simp only;omega,?_⟩
   simp only
   rw [hst]
   exact Shift.sub [(0,0)] rfl (SubE.cons rfl SLe.a (SubE.cons rfl SLe.a (SubE.cons rfl (SLe.im (ILe.eq (by unfold stp;rw [List.append_assoc]))) SubE.a))) (SubH.cons rfl rfl (ObLe.blk SLes.a) SubH.nil)
  ·have h10 : ¬ c = 10 := by simpa using h
   refine zS ?_
   (refine zR ?_;(iterate 3 refine sA ?_);refine zN ?_)
   show ∃ _,_ ∧ _ ∧ _
   refine ⟨(i + 1,f),⟨by simp only;omega,by simp only;omega,hnf,?_⟩,by simp only;omega,Shift.sub [(0,0)] rfl SubE.a (SubH.cons rfl rfl (ObLe.blk SLes.a) SubH.nil)⟩
   simp only
   rw [jA hcb hf]
   intro hm
   rcases List.mem_append.1 hm with hm | hm
   ·exact hu hm
   ·exact h10 (List.mem_singleton.1 hm).symm
 ·refine zE ?_
  have hie : i = t.length := by simp at h;omega
  subst hie
  rw [List.take_length] at hu
  rw [atQ_end hf hnl hu]
  (refine zR ?_;(iterate 3 refine sA ?_);refine zN ?_)
  exact zT Tryz.results5
end Go.Proofs.YtjgmbgfcffnanaaGreatDoor
