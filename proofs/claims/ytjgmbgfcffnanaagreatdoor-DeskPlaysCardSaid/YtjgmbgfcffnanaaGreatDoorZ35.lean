/- A range over a function, in the logic. No program. A range over a bound method, one variable, whose body goes on to the end. No program. -/
import Derived.RangeFuncFrom
import Derived.Test.YtjgmbgfcffnanaaGreatDoorZ16
namespace Go.Proofs.YtjgmbgfcffnanaaGreatDoor
open Go.RowKit
def plainE : List Ent → Bool
 | [] => true
 | (_,.obj _) :: _ => false
 | (_,.blk _ _) :: H => plainE H
 | (_,.row _ _ _ _) :: H => plainE H
 | (_,.nest _ _ _ _ _) :: H => plainE H
theorem uV : ∀ {H : List Ent},plainE H = true → ∀ e ∈ H,∀ O,e.2 ≠ .obj O
 | (i,.blk t cs) :: H,h,e,he,O => by
  rcases List.mem_cons.1 he with rfl | he
  ·simp
  ·exact uV (by simpa only [plainE] using h) e he O
 | (i,.row t k enc xs) :: H,h,e,he,O => by
  rcases List.mem_cons.1 he with rfl | he
  ·simp
  ·exact uV (by simpa only [plainE] using h) e he O
 | (i,.obj O') :: H,h,e,he,O => by simp [plainE] at h
 | (i,.nest t et k enc xs) :: H,h,e,he,O => by
  rcases List.mem_cons.1 he with rfl | he
  ·simp
  ·exact uV (by simpa only [plainE] using h) e he O
theorem EntOk.cells {ρ : Nms} {μ : Mem} {w : World} {e : Ent} (h : EntOk ρ μ w e) (hn : ∀ O,e.2 ≠ .obj O) {g : Nat} (hg : eb ρ e g) : ∃ us t fz,w.heap[g]? = some (.cells us t fz) := by
 obtain ⟨i,o⟩ := e
 cases o with
 | blk t cs =>
  obtain ⟨g',us,h1,h2,_,h4,_⟩ := h
  rw [uq rfl] at hg
  simp only [h1,Option.bind_some,blk,Option.some.injEq] at hg
  subst hg
  exact ⟨_,_,_,h2⟩
 | row t k enc xs =>
  obtain ⟨v,us,h1,h2,_,_,h4,_⟩ := h
  rw [uq rfl] at hg
  simp only [h1,Option.bind_some] at hg
  rcases h2.2 with ⟨rfl,_⟩ | ⟨g',cap,cur,rfl,_,hh,_⟩
  ·simp [blk] at hg
  ·simp only [blk,Option.some.injEq] at hg
   subst hg
   exact ⟨_,_,_,hh⟩
 | obj O => exact absurd rfl (hn O)
 | nest t et k enc xss =>
  obtain ⟨_,_,⟨v,us,h1,h2,_,h4⟩,_⟩ := h
  obtain ⟨j,hj,hg⟩ := hg
  cases j with
  | zero =>
   simp only [Nat.add_zero,h1,Option.bind_some] at hg
   rcases h2.2 with ⟨rfl,_⟩ | ⟨g',cap,cur,rfl,_,hh,_⟩
   ·simp [blk] at hg
   ·simp only [blk,Option.some.injEq] at hg
    subst hg
    exact ⟨_,_,_,hh⟩
  | succ j =>
   have hj : j < xss.length := by simpa [HObj.span] using hj
   obtain ⟨u,_,h6,us',h7,_⟩ := h4 j _ (List.getElem?_eq_getElem hj)
   rw [show i + (j + 1) = i + 1 + j by omega] at hg
   simp only [h6,Option.bind_some] at hg
   rcases h7.2 with ⟨rfl,_⟩ | ⟨g',cap,cur,rfl,_,hh,_⟩
   ·simp [blk] at hg
   ·simp only [blk,Option.some.injEq] at hg
    subst hg
    exact ⟨_,_,_,hh⟩
section
variable {F : Fx} {nt : Nat} {x y : St} {μ μ' : Mem} {ρ ρ' : Nms} {a a' : Act} {w w' : World}
theorem Inv.grown (h : Inv F nt x μ ρ a w) (hp : plainE x.H = true) {row : Option Nat} (hg : w.grownBy w' row) (hr : ∀ r,row = some r → F.w0.heap.size ≤ r ∧ ∃ o : Obj,w.heap[r]? = some o ∧ o.isCells = false) : Inv F nt x μ ρ a w' := by
 have same : ∀ (b : Nat) us t fz,w.heap[b]? = some (.cells us t fz) → w'.heap[b]? = w.heap[b]? := fun b us t fz hb => hg.block b (Array.getElem?_eq_some_iff.1 hb).1 fun e => by
  obtain ⟨_,o,ho,hc⟩ := hr b e.symm
  rw [hb] at ho
  injection ho with ho
  subst ho
  cases hc
 refine ⟨h.size,h.defers,h.env,fun b cs hb => ?_,h.heap.keep (Nms.le.refl _) (Mem.le.refl _) fun e he g hge => ?_,h.nms,hg.os.trans h.os,hg.tape.trans h.tape,hg.output.trans h.output,Nat.le_trans h.hsize hg.size,fun k hk hG => ?_,h.le,h.new,h.own⟩
 ·obtain ⟨t,fz,hh⟩ := h.agr b cs hb
  exact ⟨t,fz,(same b _ _ _ hh).trans hh⟩
 ·obtain ⟨us,t,fz,hh⟩ := (h.heap.1 e he).cells (uV hp e he) hge
  exact ⟨same g _ _ _ hh,((h.heap.1 e he).lt hge).2⟩
 ·refine (hg.block k (Nat.lt_of_lt_of_le hk h.hsize) fun e => ?_).trans (h.block k hk hG)
  have := (hr k e.symm).1
  omega
def Fx.from (_ : Fx) (H : List Ent) (ρ : Nms) (μ : Mem) (w : World) (D : List Deferred) (ro : Option Nat) : Fx := ⟨w,μ,fun g => ∃ e ∈ H,eb ρ e g,D,ro⟩
theorem Inv.here (h : Inv F nt x μ ρ a w) {D : List Deferred} {ro : Option Nat} {a1 : Act} {σ : Env} (h1 : a1.tmps.size = nt) (h2 : a1.defers = D) (h3 : EnvOk ρ μ σ a1.tmps) : Inv (F.from x.H ρ μ w D ro) nt ⟨σ,x.H,x.fr⟩ μ ρ a1 w :=
 ⟨h1,h2,h3,h.agr,h.heap,h.nms,rfl,rfl,rfl,Nat.le_refl _,fun _ _ _ => rfl,Mem.le.refl _,fun _ hb => .inl hb,fun e he _ hg => .inl ⟨e,he,hg⟩⟩
theorem Inv.back (h : Inv F nt x μ ρ a w) {D : List Deferred} {ro : Option Nat} (h2 : Inv (F.from x.H ρ μ w D ro) nt y μ' ρ' a' w') {a1 : Act} {σ : Env} (h3 : a1.tmps.size = nt) (h4 : a1.defers = F.D) (h5 : EnvOk ρ' μ' σ a1.tmps) : Inv F nt ⟨σ,y.H,y.fr⟩ μ' ρ' a1 w' := by
 have hG : ∀ g,(∃ e ∈ x.H,eb ρ e g) → F.G g ∨ F.w0.heap.size ≤ g := fun g ⟨e,he,hg⟩ => h.own e he g hg
 refine ⟨h3,h4,h5,h2.agr,h2.heap,h2.nms,h2.os.trans h.os,h2.tape.trans h.tape,h2.output.trans h.output,Nat.le_trans h.hsize h2.hsize,fun k hk hk2 => ?_,h.le.trans h2.le,fun b hb => ?_,fun e he g hg => ?_⟩
 ·refine (h2.block k (Nat.lt_of_lt_of_le hk h.hsize) fun hgk => ?_).trans (h.block k hk hk2)
  rcases hG k hgk with h6 | h6
  ·exact hk2 h6
  ·omega
 ·rcases h2.new b hb with h6 | h6 | h6
  ·exact h.new b h6
  ·exact .inr (.inl (Nat.le_trans h.hsize h6))
  ·exact .inr ((hG b h6).symm)
 ·rcases h2.own e he g hg with h6 | h6
  ·exact hG g h6
  ·exact .inr (Nat.le_trans h.hsize h6)
theorem keeps_of (h : Inv F nt x μ ρ a w) (hp : plainE x.H = true) {D : List Deferred} {ro : Option Nat} (h2 : Inv (F.from x.H ρ μ w D ro) nt y μ' ρ' a' w') : KeepsOthers w w' := ⟨h2.hsize,fun k o hk ho => by
 refine (h2.block k (Array.getElem?_eq_some_iff.1 hk).1 fun ⟨e,he,hg⟩ => ?_).trans hk
 obtain ⟨us,t,fz,hh⟩ := (h.heap.1 e he).cells (uV hp e he) hg
 rw [hk] at hh
 injection hh with hh
 subst hh
 cases ho⟩
end
def Raw (C : Cfg) (F : Fx) (nt : Nat) (c : Code) (Q : Exit → Act → World → Prop) (x : St) : Prop := ∀ μ ρ a w,Inv F nt x μ ρ a w → c.wpIn Fence.wide 9 C.P Q a w
def isEnv (ts : Array Value) : Env → Env
 | [] => []
 | (t,s) :: σ => (t,.is (ts.getD t undef) s) :: isEnv ts σ
theorem isEnv_at {ts : Array Value} : ∀ {σ : Env} {t : Nat} {s : SV},lk (isEnv ts σ) t = some s → ∃ s0,lk σ t = some s0 ∧ s = .is (ts.getD t undef) s0
 | [],t,s,h => by cases h
 | (d,s0) :: σ,t,s,h => by
  unfold isEnv lk at h
  unfold lk
  cases hb : Nat.beq d t with
  | true =>
   rw [hb] at h
   have := Nat.eq_of_beq_eq_true hb
   subst this
   injection h with h
   exact ⟨s0,rfl,h.symm⟩
  | false => rw [hb] at h;exact isEnv_at h
theorem isEnv_of {ts : Array Value} : ∀ {σ : Env} {t : Nat} {s : SV},lk σ t = some s → lk (isEnv ts σ) t = some (.is (ts.getD t undef) s)
 | [],t,s,h => by cases h
 | (d,s0) :: σ,t,s,h => by
  unfold lk at h
  unfold isEnv lk
  cases hb : Nat.beq d t with
  | true =>
   rw [hb] at h
   have := Nat.eq_of_beq_eq_true hb
   subst this
   injection h with h
   rw [h]
  | false => rw [hb] at h;exact isEnv_of h
theorem EnvOk.unis {ρ : Nms} {μ : Mem} {σ : Env} {ts ts' : Array Value} (h : EnvOk ρ μ (isEnv ts σ) ts') : EnvOk ρ μ σ ts := fun t s hs => by
 have := h t _ (isEnv_of hs)
 unfold SV.R at this
 rw [this.1] at this
 exact this.2
theorem EnvOk.is {ρ : Nms} {μ : Mem} {σ : Env} {ts : Array Value} (h : EnvOk ρ μ σ ts) : EnvOk ρ μ (isEnv ts σ) ts := fun t s hs => by
 obtain ⟨s0,h1,rfl⟩ := isEnv_at hs
 unfold SV.R
 exact ⟨rfl,h t s0 h1⟩
theorem vB {ts : Array Value} : ∀ {σ : Env} {t : Nat},lk σ t = none → lk (isEnv ts σ) t = none
 | [],t,h => rfl
 | (d,s0) :: σ,t,h => by
  unfold lk at h
  unfold isEnv lk
  cases hb : Nat.beq d t with
  | true => rw [hb] at h;cases h
  | false => rw [hb] at h;exact vB h
theorem EnvOk.cons {ρ : Nms} {μ : Mem} {σ : Env} {ts : Array Value} {p : Nat} {v : Value} {s : SV} (h : EnvOk ρ μ σ ts) (hp : p < ts.size) (_ : lk σ p = none) (hv : SV.R ρ μ s v) : EnvOk ρ μ ((p,s) :: σ) (ts.setIfInBounds p v) := fun t s' hs => by
 unfold lk at hs
 rw [getD_set _ _ _ _ _ hp]
 cases hb : Nat.beq p t with
 | true =>
  rw [hb] at hs
  rw [if_pos (Nat.eq_of_beq_eq_true hb)]
  injection hs with hs
  subst hs
  exact hv
 | false =>
  rw [hb] at hs
  rw [if_neg (Nat.ne_of_beq_eq_false hb)]
  exact h t s' hs
def IV.fnM (f : FuncId) (first : List IV) : IV := ⟨fun μ v => ∃ vs : List Value,v = .func (.func f) vs.toArray #[] ∧ IVs μ first vs,fun h ⟨vs,e,k⟩ => ⟨vs,e,k.mono h⟩⟩
def IterM (C : Cfg) (gf : FuncId) (first : List IV) {α : Type} (enc : α → Value) (N : Nat) (S : List α → Prop) : Prop :=
 (∃ fn,C.P.funcs[gf]? = some fn ∧ fn.body.isNone = false ∧ (fn.name == "runtime.NumGoroutine") = false) ∧
 ∀ μ vs w,IVs μ first vs → Agr μ w → ∀ (l : Nat) (J : List α → World → Prop) (W : World),Below w.heap.size w W → AbidesFrom W.heap.size J →
  (∀ pre x W1,J pre W1 → pre.length < N → YieldAt Fence.wide 7 C.P l #[enc x] W1 fun e W' => e = .returned (.bool true) ∧ J (pre ++ [x]) W' ∧ (Agr μ W1 → Agr μ W')) →
  J [] W →
  CallsIn Fence.wide 8 C.P gf (vs.toArray ++ #[.func (.yield l) #[] #[]]) W fun e W' => (∃ v,e = .returned v) ∧ ∃ xs,S xs ∧ J xs W'
section
variable {C : Cfg} {F : Fx} {nt : Nat} {fn : Func} {x : St} {σ : Env} {R : Value → World → Prop}
def RetP (C : Cfg) (F : Fx) (nt : Nat) (fn : Func) (R : Value → World → Prop) (y : St) : Prop := ∀ μ ρ a w,Inv F nt y μ ρ a w → ∃ v,(results fn a.tmps).run C.P w = .ok v w ∧ R v w
def FnRawP (C : Cfg) (_ : Fx) (fn : Func) (R : Value → World → Prop) : Exit → Act → World → Prop := bodyPostM Fence.wide 9 C.P fn fun e w' => ∃ v,e = .returned v ∧ R v w'
def FnUQ (C : Cfg) (F : Fx) (nt : Nat) (fn : Func) (R : Value → World → Prop) : Exit → St → Prop
 | .normal,y => RetP C F nt fn R y
 | .ret,y => RetP C F nt fn R y
 | _,_ => False
theorem rawP_ret {y : St} (hD : F.D = []) {e : Exit} {μ : Mem} {ρ : Nms} {a : Act} {w : World} (hq : FnUQ C F nt fn R e y) (hy : Inv F nt y μ ρ a w) : FnRawP C F fn R e a w := by
 have key : RetP C F nt fn R y → LeavesInM Fence.wide 9 C.P fn a.tmps (fun e w' => ∃ v,e = .returned v ∧ R v w') a.defers .returning w := fun hr => by
  rw [hy.defers,hD]
  obtain ⟨v,h1,h2⟩ := hr μ ρ a w hy
  exact ⟨v,h1,v,rfl,h2⟩
 cases e with
 | normal => exact key hq
 | ret => exact key hq
 | _ => exact hq.elim
theorem RawP.seq {c1 c2 : Code} (hD : F.D = []) (hro : F.ro = none) (h : WP C F nt c1 (XThen (Raw C F nt c2 (FnRawP C F fn R)) (FnUQ C F nt fn R)) x) : Raw C F nt (.seq c1 c2) (FnRawP C F fn R) x := fun μ ρ a w hi => by
 refine wpIn_seq (wpIn_mono (jB hro ▸ h μ ρ a w hi) ?_)
 rintro e a' w' ⟨y,μ',ρ',hq,hy⟩
 cases e with
 | normal => exact hq _ _ _ _ hy
 | _ => exact rawP_ret (y := y) hD hq hy
theorem RawP.seq2 {c1 c2 c3 : Code} (hD : F.D = []) (hro : F.ro = none) (h : WP C F nt c1 (XThen (Raw C F nt c2 (Exit.then (c3.wpIn Fence.wide 9 C.P (FnRawP C F fn R)) (FnRawP C F fn R))) (FnUQ C F nt fn R)) x) : Raw C F nt (.seq (.seq c1 c2) c3) (FnRawP C F fn R) x := fun μ ρ a w hi => by
 refine wpIn_seq (wpIn_seq (wpIn_mono (jB hro ▸ h μ ρ a w hi) ?_))
 rintro e a' w' ⟨y,μ',ρ',hq,hy⟩
 cases e with
 | normal => exact hq _ _ _ _ hy
 | ret => exact rawP_ret (y := y) (e := .ret) hD hq hy
 | _ => exact (hq : False).elim
theorem leavesP_mark {D : Nat} {μ μ1 : Mem} {ρ ρ1 : Nms} {y z : St} {a a1 : Act} {w w1 : World} (hi : Inv F nt y μ ρ a w) (hpy : plainE y.H = true) (hsz : F.w0.heap.size ≤ D) (hDw : w.heap[D]? = some (.deferred (some [])))
 (h1 : Inv (F.from y.H ρ μ w [{ target := .collected D,args := #[] }] none) nt z μ1 ρ1 a1 w1) (hpz : plainE z.H = true) (hr : RetP C F nt fn R z) :
 LeavesInM Fence.wide 9 C.P fn a1.tmps (fun e w' => ∃ v,e = .returned v ∧ R v w') a1.defers .returning w1 := by
 have hDlt : D < w.heap.size := (Array.getElem?_eq_some_iff.1 hDw).1
 have hno : ¬ ∃ e ∈ y.H,eb ρ e D := fun ⟨e,he,hg⟩ => by
  obtain ⟨us,t,fz,hh⟩ := (hi.heap.1 e he).cells (uV hpy e he) hg
  rw [hDw] at hh
  cases hh
 have hD1 : w1.heap[D]? = some (.deferred (some [])) := (h1.block D hDlt hno).trans hDw
 have hb := hi.back h1 (a1 := { a1 with defers := F.D }) h1.size rfl h1.env
 have hg2 := hb.grown hpz (w' := w1.putObj D (.deferred none)) (grownBy_putObj' w1 D (.deferred none)) (fun r e => by cases e;exact ⟨hsz,_,hD1,rfl⟩)
 have hds : a1.defers = [{ target := .collected D,args := #[] }] := h1.defers
 rw [hds]
 obtain ⟨v,k1,k2⟩ := hr μ1 ρ1 _ _ hg2
 exact ⟨by simp,.inl ⟨D,_,rfl,run_takeDeferred hD1,v,k1,v,rfl,k2⟩⟩
theorem Raw.range1 {α : Type} {id g p1 N : Nat} {assign body rest : Code} {gf : FuncId} {first : List IV} {enc : α → Value} {S : List α → Prop}
 (I : List α → List Ent × Nat) (hI : ∀ i,plainE (I i).1 = true)
 (hD : F.D = []) (_ : F.ro = none) (hx : Shift F nt x ⟨σ,(I []).1,(I []).2⟩)
 (hg : lk σ g = some (.im (IV.fnM gf first))) (it : IterM C gf first enc N S)
 (hp1 : lk σ p1 = none) (hpb : Nat.blt p1 nt = true)
 (hround : ∀ F' : Fx,F'.D = [] → ∀ ts pre x,pre.length < N → WP C F' nt assign (fun e y => e = .normal ∧ plainE y.H = true ∧ ∀ F2 : Fx,F2.D = [] → WP C F2 nt body (fun e2 z => e2 = .normal ∧ Shift F2 nt z ⟨isEnv ts σ,(I (pre ++ [x])).1,(I (pre ++ [x])).2⟩) y) ⟨(p1,.im (IV.val (enc x))) :: isEnv ts σ,(I pre).1,(I pre).2⟩)
 (hdone : ∀ F2 : Fx,∀ xs,S xs → WP C F2 nt rest (fun e y => e = .ret ∧ plainE y.H = true ∧ RetP C F nt fn R y) ⟨σ,(I xs).1,(I xs).2⟩) :
 Raw C F nt (.block id (.rangeFunc (.tmp g) #[p1] assign body)) (Exit.then (rest.wpIn Fence.wide 9 C.P (FnRawP C F fn R)) (FnRawP C F fn R)) x := by
 intro μ0 ρ0 a w hi0
 obtain ⟨μ,ρ,hi⟩ := hx _ _ _ _ hi0
 clear hi0 hx
 have b1 : p1 < nt := by simpa using hpb
 obtain ⟨vs,hvs,hfirst⟩ := oi.1 (hi.env g _ hg)
 obtain ⟨⟨gn,k1,k2,k3⟩,hit⟩ := it
 have hsize := hi.size
 refine wpIn_block ?_
 refine wpIn_rangeFunc ?_
 intro fid hfid
 obtain ⟨rec,hrec⟩ : ∃ rec : LoopState → Option Code → Loop,rec = fun st pe => { state := st,pending := pe,fn := fid,tmps := a.tmps,params := #[p1],assign,body,defers := w.heap.size } := ⟨_,rfl⟩
 obtain ⟨W1,hW1⟩ : ∃ W1,(w.alloc (.deferred (some []))).alloc (.loop (rec .ready none)) = W1 := ⟨_,rfl⟩
 have hL1 : W1.heap[w.heap.size + 1]? = some (.loop (rec .ready none)) := by
  rw [← hW1];have := World.alloc_heap_new (w.alloc (.deferred (some []))) (.loop (rec .ready none));rwa [World.size_alloc] at this
 have hK1 : W1.heap[w.heap.size]? = some (.deferred (some [])) := by
  rw [← hW1];exact (Below.heap_alloc _ _ _ (by simp)).trans (World.alloc_heap_new w _)
 have hsz1 : W1.heap.size = w.heap.size + 2 := by rw [← hW1];simp
 have hbel : Below w.heap.size w W1 := by rw [← hW1];exact ((Below.refl _ w).alloc (Nat.le_refl _) _).alloc (by simp) _
 have hi1 : Inv F nt ⟨σ,(I []).1,(I []).2⟩ μ ρ a W1 := hi.grown (hI []) ⟨hbel.os,hbel.tape,hbel.output,hbel.size,fun k hk _ => hbel.block k hk⟩ (row := none) (fun r e => by cases e)
 have grow : ∀ {pre : List α} {A B : World} {row : Option Nat} {μ' : Mem} {ρ' : Nms},Inv F nt ⟨σ,(I pre).1,(I pre).2⟩ μ' ρ' a A → A.grownBy B row → (∀ r,row = some r → w.heap.size ≤ r ∧ ∃ o : Obj,A.heap[r]? = some o ∧ o.isCells = false) → Inv F nt ⟨σ,(I pre).1,(I pre).2⟩ μ' ρ' a B := fun h hgr hr => h.grown (hI _) hgr fun r e => ⟨Nat.le_trans hi.hsize (hr r e).1,(hr r e).2⟩
 refine ⟨w.heap.size + 1,[{ target := .collected w.heap.size,args := #[] }],W1,{ target := .fn (.func gf) #[],args := vs.toArray ++ #[.func (.yield (w.heap.size + 1)) #[] #[]] },W1,gf,
  vs.toArray ++ #[.func (.yield (w.heap.size + 1)) #[] #[]],W1,?_,?_,?_,?_,(fun h => by cases h),?_⟩
 ·rw [← hW1,hrec];exact run_enterLoop_outer _ _ _ _ _
 ·have : a.eval (.tmp g) = .func (.func gf) vs.toArray #[] := hvs
  simp only [resolve,this]
  simp [go_sem]
 ·intro f' _;trivial
 ·simp [invoke,go_sem,oX k1 k2 k3]
 refine (hit μ vs w hfirst hi.agr (w.heap.size + 1)
  (fun pre W => (∃ μ' ρ',Mem.le μ μ' ∧ Inv F nt ⟨σ,(I pre).1,(I pre).2⟩ μ' ρ' a W) ∧ W.heap[w.heap.size + 1]? = some (.loop (rec .ready none)) ∧ W.heap[w.heap.size]? = some (.deferred (some [])))
  W1 hbel ?_ ?_ ⟨⟨μ,ρ,Mem.le.refl _,hi1⟩,hL1,hK1⟩).mono ?_
 ·rintro pre A B row ⟨⟨μ',ρ',hle,h3⟩,hl,hk⟩ hgr hr
  refine ⟨⟨μ',ρ',hle,grow h3 hgr fun r e => ?_⟩,(grownBy_keeps hgr (fun r e => (hr r e).2) hl rfl).trans hl,(grownBy_keeps hgr (fun r e => (hr r e).2) hk rfl).trans hk⟩
  obtain ⟨h1,o,ho,hw⟩ := hr r e
  exact ⟨by omega,o,ho,Obj.not_cells_of_walk hw⟩
 ·rintro pre x W ⟨⟨μ',ρ',hle,h3⟩,hl,hk⟩ hlen
  have hy := run_yield (P := C.P) (args := #[enc x]) hl (by rw [hrec];rfl)
  rw [hrec] at hy
  refine ⟨fid,_,assign,body,hy,roundIn_of_wpIn hfid ?_⟩
  have henv : EnvOk ρ' μ' ((p1,.im (IV.val (enc x))) :: isEnv a.tmps σ) (a.tmps.setIfInBounds p1 (enc x)) :=
   EnvOk.cons h3.env.is (by omega) (vB hp1) (oi.2 rfl)
  have h5 := h3.here (D := []) (ro := some (w.heap.size + 1)) (a1 := { tmps := a.tmps.setIfInBounds p1 (enc x),defers := [] }) (by simp;exact hsize) rfl henv
  have h6 := hround _ rfl a.tmps pre x hlen μ' ρ' _ W h5
  have e0 : (((#[p1].zip #[enc x]).foldl (fun t (q : Tmp × Value) => t.setIfInBounds q.1 q.2) a.tmps)) = a.tmps.setIfInBounds p1 (enc x) := by simp
  have e0' : (((#[p1].zip #[enc x]).foldl (fun t (p,v) => t.setIfInBounds p v) a.tmps)) = a.tmps.setIfInBounds p1 (enc x) := e0
  rw [e0']
  refine wpIn_mono (fen_n h6) ?_
  rintro e a2 Wa ⟨y,μ2,ρ2,⟨rfl,hpy,hbody⟩,hyi⟩
  have hback := h3.back hyi (a1 := a2) hyi.size (by rw [hD];exact hyi.defers) hyi.env
  have hka := keeps_of h3 (hI pre) hyi
  have hla := hka.same _ _ hl rfl
  have hkka := hka.same _ _ hk rfl
  refine ⟨_,run_beginRound hla (by rw [hrec]),?_⟩
  have hlt : w.heap.size + 1 < Wa.heap.size := (Array.getElem?_eq_some_iff.1 hla).1
  have hb2 := hback.grown hpy (w' := Wa.putObj (w.heap.size + 1) (.loop { rec .ready none with state := .busy })) (grownBy_putObj' Wa (w.heap.size + 1) _) (fun r e => by cases e;exact ⟨Nat.le_trans hi.hsize (by omega),_,hla,rfl⟩)
  have hl2 : (Wa.putObj (w.heap.size + 1) (.loop { rec .ready none with state := .busy })).heap[w.heap.size + 1]? = some (.loop { rec .ready none with state := .busy }) := World.putObj_heap_same hlt
  have hk2 : (Wa.putObj (w.heap.size + 1) (.loop { rec .ready none with state := .busy })).heap[w.heap.size]? = some (.deferred (some [])) := (World.putObj_heap_other (by omega)).trans hkka
  have h7 := hb2.here (D := []) (ro := some (w.heap.size + 1)) (a1 := a2) hyi.size hyi.defers hyi.env
  have h8 := hbody _ rfl μ2 ρ2 _ _ h7
  refine wpIn_mono (fen_n h8) ?_
  rintro e3 a3 W3 ⟨z,μ3,ρ3,⟨rfl,hs⟩,hz⟩
  obtain ⟨μ4,ρ4,h9⟩ := hs _ _ _ _ hz
  have hk3 := keeps_of hb2 hpy h9
  have hl3 := hk3.same _ _ hl2 rfl
  have hkk3 := hk3.same _ _ hk2 rfl
  have hend := run_endRound (P := C.P) (none : Option Code) hl3
  have hfin := hb2.back h9 (a1 := a) hsize hi.defers h9.env.unis
  have hlt3 := (Array.getElem?_eq_some_iff.1 hl3).1
  have hle4 : Mem.le μ' μ4 := hyi.le.trans h9.le
  have hfin2 := grow (pre := pre ++ [x]) hfin (grownBy_putObj' W3 (w.heap.size + 1) (.loop { { rec .ready none with state := .busy } with state := if (none : Option Code).isNone then .ready else .done,pending := none })) (fun r e => by cases e;exact ⟨by omega,_,hl3,rfl⟩)
  refine ⟨_,_,hend,rfl,⟨⟨μ4,ρ4,hle.trans hle4,hfin2⟩,?_,(World.putObj_heap_other (by omega)).trans hkk3⟩,fun _ b c hb => hfin2.agr b c (hle4 _ _ (hle _ _ hb))⟩
  rw [World.putObj_heap_same hlt3,hrec]
  rfl
 ·rintro e W2 ⟨⟨v,rfl⟩,xs,hS,⟨μ',ρ',hle,h3⟩,hl,hk⟩
  refine ⟨none,_,by have := run_endLoop (P := C.P) hl (by rw [hrec];simp);rw [hrec] at this;exact this,?_⟩
  have hlt : w.heap.size + 1 < W2.heap.size := (Array.getElem?_eq_some_iff.1 hl).1
  have hb3 := grow h3 (grownBy_putObj' W2 (w.heap.size + 1) (.loop { rec .ready none with state := .exhausted })) (fun r e => by cases e;exact ⟨by omega,_,hl,rfl⟩)
  have hDW : (W2.putObj (w.heap.size + 1) (.loop { rec .ready none with state := .exhausted })).heap[w.heap.size]? = some (.deferred (some [])) := (World.putObj_heap_other (by omega)).trans hk
  have h5 := hb3.here (D := [{ target := .collected w.heap.size,args := #[] }]) (ro := none) (a1 := { a with defers := { target := .collected w.heap.size,args := #[] } :: a.defers }) (σ := σ) hsize (by show _ :: a.defers = _;rw [hi.defers,hD]) hb3.env
  have h6 := hdone _ xs hS μ' ρ' _ _ h5
  rw [hrec] at h6 hDW hb3
  refine wpIn_mono h6 ?_
  rintro e a' W' ⟨y,μ'',ρ'',⟨rfl,hpz,hr⟩,hy⟩
  exact leavesP_mark hb3 (hI xs) hi.hsize hDW hy hpz hr
end
def RowOut {α : Type} (F : Fx) (et k : Nat) (enc : α → List IV) (xs : List α) (v : Value) (w : World) : Prop := ∃ μ' us,w.ownsRow F.w0.heap.size et k v xs.length us ∧ IvFlat μ' enc xs us ∧ One us ∧ (∀ g,v.ownBlock = some g → μ' g = none) ∧ Stp F.μ0 F.w0 μ' w
theorem RetP.row {α : Type} {C : Cfg} {F : Fx} {nt : Nat} {fn : Func} {et k t i n : Nat} {enc : α → List IV} {xs : List α} {y : St} (hG : ∀ g,¬ F.G g) (h1 : fn.results = #[.tmp t]) (h2 : lk y.σ t = some (.row i n)) (h3 : hget y.H i = some (.row et k enc xs)) : RetP C F nt fn (RowOut F et k enc xs) y := fun μ ρ a w hy => by
 have h4 := hy.env _ _ h2
 unfold SV.R at h4
 have hm := om h3
 obtain ⟨v,us,e1,e2,e3,e4,e5,e6⟩ := hy.heap.1 _ hm
 rw [h4.1] at e1
 injection e1 with e1
 subst e1
 refine ⟨_,by rw [yf (rs := [.tmp t]) (vs := [a.tmps.getD t undef]) h1 (by simp [resOf])];rfl,μ,us,⟨e2.1,e2.2.imp id fun ⟨g,cap,cur,q1,_,q3⟩ => ⟨g,cap,cur,q1,?_,q3⟩⟩,e3,e6,e5,⟨⟨hy.os,hy.tape,hy.output,hy.hsize,fun k hk => hy.block k hk (hG k)⟩,hy.le,fun b hb => (hy.new b hb).imp id (fun hx => hx.elim id (fun hf => (hG b hf).elim)),hy.agr⟩⟩
 refine (hy.own _ hm g (yh ?_)).resolve_left (hG g)
 rw [h4.1]
 simp only [Option.bind_some]
 rw [q1];rfl
theorem FnRow.of_raw {α : Type} {C : Cfg} {f : FuncId} {fn : Func} {c : Code} {args : List IV} {et k : Nat} {enc : α → List IV} {xs : List α} (nt : Nat) (hk : ∀ x,(enc x).length = k) (hf : C.P.funcs[f]? = some fn) (hb : fn.body = some c) (hname : (fn.name == "runtime.NumGoroutine") = false) (hnt : fn.ntmps = nt) (hn : Nat.ble args.length nt = true)
 (h : ∀ F : Fx,F.D = [] → F.ro = none → (∀ g,¬ F.G g) → Raw C F nt c (FnRawP C F fn (RowOut F et k enc xs)) ⟨env0 0 args,[],0⟩) : FnRow C f args et k enc xs := by
 refine ⟨⟨⟨fn,hf,by rw [hb];rfl,hname⟩,hk⟩,fun μ w vs hvs ha => ?_⟩
 have hlen := hvs.length
 have hle := Nat.le_of_ble_eq_true hn
 refine Calls.mono (callsIn_wide.1 (callsIn_of_wp_marks (n := 9) (R := fun e w' => ∃ v,e = .returned v ∧ RowOut ⟨w,μ,fun _ => False,[],none⟩ et k enc xs v w') hf hb trivial ?_)) ?_
 ·refine h ⟨w,μ,fun _ => False,[],none⟩ rfl rfl (fun _ h => h) μ (fun _ => none) _ w ?_
  refine ⟨by simp;omega,rfl,fun t s hs => ?_,ha,⟨(fun e he => by cases he),(fun e he => by cases he)⟩,fun i hi => absurd rfl hi,rfl,rfl,rfl,Nat.le_refl _,fun _ _ _ => rfl,Mem.le.refl _,fun b hb => .inl hb,(fun e he => by cases he)⟩
  obtain ⟨j,s',h1,h2,rfl⟩ := qr hs
  rw [Nat.zero_add] at h1
  subst h1
  obtain ⟨v,h3,h4⟩ := hvs.get h2
  have hj : t < vs.length := (List.getElem?_eq_some_iff.1 h3).1
  refine oi.2 ?_
  have : (vs.toArray ++ Array.replicate (fn.ntmps - vs.toArray.size) undef).getD t undef = v := by
   rw [Array.getD_eq_getD_getElem?,Array.getElem?_append_left (by simpa using hj)]
   simp [h3]
  rw [this];exact h4
 ·rintro e w' ⟨v,rfl,μ',us,h1,h2,h3,h4,h5⟩
  exact ⟨v,μ',us,rfl,h1,h2,h3,h4,h5⟩
end Go.Proofs.YtjgmbgfcffnanaaGreatDoor
