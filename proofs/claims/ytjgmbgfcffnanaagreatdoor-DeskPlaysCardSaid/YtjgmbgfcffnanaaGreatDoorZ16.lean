/- Rows of rows among what is owned: made, loaded, stored into, given up; and what is lent to a call. No program. -/
import Derived.Test.YtjgmbgfcffnanaaGreatDoorZ2
namespace Go.Proofs.YtjgmbgfcffnanaaGreatDoor
open Go.RowKit
def rnN (i j : Nat) : List (Nat × Nat) := (List.range 16).map fun k => (i + k,j + k)
def Mem.all (w : World) : Mem := fun b => match w.heap[b]? with
 | some (.cells cs _ _) => some cs
 | _ => none
theorem Mem.all_at {w : World} {b : Nat} {cs : Array Value} {t : TypeId} {fz : Nat × Nat} (h : w.heap[b]? = some (.cells cs t fz)) : Mem.all w b = some cs := by unfold Mem.all;rw [h]
theorem Agr.all (w : World) : Agr (Mem.all w) w := fun b cs h => by
 unfold Mem.all at h
 cases e : w.heap[b]? with
 | none => rw [e] at h;cases h
 | some o =>
  rw [e] at h
  cases o <;> first | (injection h with h;subst h;exact ⟨_,_,rfl⟩) | cases h
theorem Agr.le_all {μ : Mem} {w : World} (h : Agr μ w) : Mem.le μ (Mem.all w) := fun b cs hb => by
 obtain ⟨t,fz,hh⟩ := h b cs hb
 exact Mem.all_at hh
theorem RowOk.view {μ ν : Mem} {w : World} {t k : Nat} {α : Type} {enc : α → List IV} {xs : List α} {v : Value} (h : RowOk μ w t k enc xs v) (hk : ∀ x,(enc x).length = k) (hle : Mem.le μ ν) (hb : ∀ g cs fz,blk v = some g → w.heap[g]? = some (.cells cs t fz) → ν g = some cs) : (IV.view k enc xs).p ν v := by
 obtain ⟨us,h2,h3,h5,h6⟩ := h
 rcases h2.2 with ⟨rfl,hn⟩ | ⟨g,cap,cur,rfl,_,hg,hnc,hcm,hcs,htake⟩
 ·have : xs = [] := List.eq_nil_of_length_eq_zero hn
  subst this
  exact ⟨none,0,rfl,Nat.le_refl _,by simp [maxLen],.inl rfl⟩
 ·refine ⟨_,cap,rfl,hnc,hcm,.inr ⟨g,0,rfl,fun q y hy j s hj => ?_⟩⟩
  have h7 : ∀ (xs : List α) (q : Nat),xs[q]? = some y → (xs.flatMap enc)[q * k + j]? = some s := by
   intro xs
   induction xs with
   | nil => intro q h;simp at h
   | cons z zs ih =>
    intro q h
    rw [List.flatMap_cons]
    cases q with
    | zero =>
     simp at h;subst h
     have : j < (enc z).length := (List.getElem?_eq_some_iff.1 hj).1
     rw [Nat.zero_mul,Nat.zero_add,List.getElem?_append_left this];exact hj
    | succ q =>
     rw [List.getElem?_append_right (by rw [hk z,Nat.add_mul];omega),hk z]
     rw [show (q + 1) * k + j - k = q * k + j by rw [Nat.add_mul];omega]
     exact ih q (by simpa using h)
  obtain ⟨u,h8,h9⟩ := h3.get (h7 xs q hy)
  refine ⟨cur,u,hb g cur _ rfl hg,?_,s.mono hle h9,h6 u (List.mem_of_getElem? h8)⟩
  rw [← htake,List.getElem?_take] at h8
  split at h8
  ·rw [Nat.zero_add];simpa using h8
  ·cases h8
theorem EntOk.rowOk {α : Type} {ρ : Nms} {μ : Mem} {w : World} {i t k : Nat} {enc : α → List IV} {xs : List α} (h : EntOk ρ μ w (i,.row t k enc xs)) : ∃ v,ρ i = some v ∧ RowOk μ w t k enc xs v ∧ ∀ x,(enc x).length = k := by
 obtain ⟨v,us,h1,h2,h3,h4,h5,h6⟩ := h
 exact ⟨v,h1,⟨us,h2,h3,h5,h6⟩,h4⟩
abbrev encN {α : Type} (k : Nat) (enc : α → List IV) : List α → List IV := fun xs => [IV.view k enc xs]
theorem EntOk.nestView {α : Type} {ρ : Nms} {μ ν : Mem} {w : World} {i t et k : Nat} {enc : α → List IV} {xss : List (List α)} (h : EntOk ρ μ w (i,.nest t et k enc xss)) (hle : Mem.le μ ν) (hb : ∀ g cs t fz,eb ρ (i,.nest t et k enc xss) g → w.heap[g]? = some (.cells cs t fz) → ν g = some cs) : ∃ v,ρ i = some v ∧ (IV.view 1 (encN k enc) xss).p ν v := by
 obtain ⟨hl,hk,⟨v,us,h1,h2,h3,h4⟩,h5⟩ := h
 refine ⟨v,h1,?_⟩
 rcases h2.2 with ⟨rfl,hn⟩ | ⟨g,cap,cur,rfl,_,hg,hnc,hcm,hcs,htake⟩
 ·have : xss = [] := List.eq_nil_of_length_eq_zero hn
  subst this
  exact ⟨none,0,rfl,Nat.le_refl _,by simp [maxLen],.inl rfl⟩
 ·refine ⟨_,cap,rfl,hnc,hcm,.inr ⟨g,0,rfl,fun q xs hq j s hj => ?_⟩⟩
  obtain ⟨u,h6,h7,h8⟩ := h4 q xs hq
  have hj0 : j = 0 := by
   have := (List.getElem?_eq_some_iff.1 hj).1
   simp only [encN,List.length_singleton] at this;omega
  subst hj0
  simp only [encN,List.getElem?_cons_zero,Option.some.injEq] at hj
  subst hj
  have hq' := (List.getElem?_eq_some_iff.1 hq).1
  refine ⟨cur,u,hb g cur _ _ (yh (by simp only [h1];rfl)) hg,?_,h8.view hk hle fun b cs fz h9 h10 => hb b cs _ _ ⟨q + 1,by simp only [HObj.span];omega,?_⟩ h10,?_⟩
  ·rw [← htake,List.getElem?_take] at h6
   split at h6
   ·rw [Nat.zero_add,Nat.mul_one,Nat.add_zero];simpa using h6
   ·cases h6
  ·show (ρ (i + (q + 1))).bind blk = some b
   rw [show i + (q + 1) = i + 1 + q by omega,h7];exact h9
  ·obtain ⟨us',h9,_⟩ := h8
   rcases h9.2 with ⟨rfl,_⟩ | ⟨_,_,_,rfl,_⟩ <;> rfl
mutual
inductive Lnd (H : List Ent) : SV → IV → Prop
 | im {s : IV} : Lnd H (.im s) s
 | row {α : Type} {r n t k : Nat} {enc : α → List IV} {ys : List α} (hh : hget H r = some (.row t k enc ys)) : Lnd H (.row r n) (IV.view k enc ys)
 | nest {α : Type} {r n t et k : Nat} {enc : α → List IV} {yss : List (List α)} (hh : hget H r = some (.nest t et k enc yss)) : Lnd H (.row r n) (IV.view 1 (encN k enc) yss)
 | inn {α : Type} {r n t et k j : Nat} {enc : α → List IV} {yss : List (List α)} {ys : List α} (hh : hget H r = some (.nest t et k enc yss)) (hj : yss[j]? = some ys) : Lnd H (.row (r + 1 + j) n) (IV.view k enc ys)
 | agg {l : List SV} {l' : List IV} (h : Lnds H l l') : Lnd H (.agg l) (IV.agg l')
 | tup {l : List SV} {l' : List IV} (h : Lnds H l l') : Lnd H (.tup l) (IV.tup l')
inductive Lnds (H : List Ent) : List SV → List IV → Prop
 | nil : Lnds H [] []
 | cons {s : SV} {i : IV} {l : List SV} {l' : List IV} (h : Lnd H s i) (t : Lnds H l l') : Lnds H (s :: l) (i :: l')
end
mutual
theorem Lnd.to {H : List Ent} {ρ : Nms} {μ ν : Mem} {w : World} (hle : Mem.le μ ν) (hH : HeapOk ρ μ w H) (hb : ∀ e ∈ H,∀ g cs t fz,eb ρ e g → w.heap[g]? = some (.cells cs t fz) → ν g = some cs) : ∀ {s : SV} {i : IV} {v : Value},Lnd H s i → SV.R ρ μ s v → i.p ν v
 | _,_,v,.im,h => IV.mono _ hle (oi.1 h)
 | _,_,v,.row hh,h => by
  unfold SV.R at h
  have hm := om hh
  obtain ⟨u,h1,h2,h3⟩ := (hH.1 _ hm).rowOk
  have h1' := h1
  rw [h.1] at h1;injection h1 with h1;subst h1
  exact h2.view h3 hle fun g cs fz hg hh2 => hb _ hm g cs _ _ (yh (by simp only [h1',Option.bind_some];exact hg)) hh2
 | _,_,v,.nest hh,h => by
  unfold SV.R at h
  have hm := om hh
  obtain ⟨u,h1,h2⟩ := (hH.1 _ hm).nestView hle fun g cs t fz hg hh2 => hb _ hm g cs t fz hg hh2
  rw [h.1] at h1;injection h1 with h1;subst h1
  exact h2
 | _,_,v,@Lnd.inn _ α r n t et k j enc yss ys hh hj,h => by
  unfold SV.R at h
  have hm := om hh
  obtain ⟨_,hk,⟨v0,us,h1,h2,h3,h4⟩,_⟩ := hH.1 _ hm
  obtain ⟨u,_,h7,h8⟩ := h4 _ _ hj
  have h7' := h7
  rw [h.1] at h7;injection h7 with h7;subst h7
  refine h8.view hk hle fun g cs fz hg hh2 => hb _ hm g cs _ _ ⟨j + 1,?_,?_⟩ hh2
  ·have := (List.getElem?_eq_some_iff.1 hj).1
   simp only [HObj.span];omega
  ·show (ρ (r + (j + 1))).bind blk = some g
   rw [show r + (j + 1) = r + 1 + j by omega,h7'];exact hg
 | _,_,v,.agg h,k => by
  unfold SV.R at k
  obtain ⟨vs,e,k1,k2⟩ := k
  exact ⟨vs,e,Lnds.to hle hH hb h k1,k2⟩
 | _,_,v,.tup h,k => by
  unfold SV.R at k
  obtain ⟨vs,e,k1⟩ := k
  exact ⟨vs,e,Lnds.to hle hH hb h k1⟩
theorem Lnds.to {H : List Ent} {ρ : Nms} {μ ν : Mem} {w : World} (hle : Mem.le μ ν) (hH : HeapOk ρ μ w H) (hb : ∀ e ∈ H,∀ g cs t fz,eb ρ e g → w.heap[g]? = some (.cells cs t fz) → ν g = some cs) : ∀ {l : List SV} {l' : List IV} {vs : List Value},Lnds H l l' → SV.Rs ρ μ l vs → IVs ν l' vs
 | _,_,vs,.nil,h => by unfold SV.Rs at h;exact h
 | _,_,vs,.cons h t,k => by
  unfold SV.Rs at k
  obtain ⟨v,vs',e,h1,h2⟩ := k
  exact ⟨v,vs',e,Lnd.to hle hH hb h h1,Lnds.to hle hH hb t h2⟩
end
theorem Lnd.at {H : List Ent} {ρ : Nms} {μ : Mem} {w : World} (ha : Agr μ w) (hH : HeapOk ρ μ w H) {s : SV} {i : IV} {v : Value} (h : Lnd H s i) (k : SV.R ρ μ s v) : i.p (Mem.all w) v := h.to ha.le_all hH (fun _ _ _ _ _ _ _ hg => Mem.all_at hg) k
inductive LentS (σ : Env) (H : List Ent) : List Go.Operand → List IV → Prop
 | nil : LentS σ H [] []
 | cons {x : Go.Operand} {s : SV} {i : IV} {xs : List Go.Operand} {l : List IV} (h : Ev σ x s) (k : Lnd H s i) (t : LentS σ H xs l) : LentS σ H (x :: xs) (i :: l)
theorem LentS.at {σ : Env} {H : List Ent} {ρ : Nms} {μ : Mem} {w : World} {o : Oper} {a : Act} (hl : LookOk ρ μ σ o a) (ha : Agr μ w) (hH : HeapOk ρ μ w H) : ∀ {xs : List Go.Operand} {l : List IV},LentS σ H xs l → (∀ x ∈ xs,x ∈ o.op.operands.toList) → IVs (Mem.all w) l (xs.map a.eval)
 | [],_,.nil,_ => rfl
 | x :: _,_,.cons h k t,hm => ⟨_,_,rfl,k.at ha hH (h.at hl (hm x List.mem_cons_self)),LentS.at hl ha hH t fun y hy => hm y (List.mem_cons_of_mem _ hy)⟩
section
variable {C : Cfg} {σ : Env} {H : List Ent} {fr : Nat} {d : Option Tmp} {ty : TypeId} {pos : String} {after : Array Edge} {gu : Option (Nat × Bool)}
theorem uD {f : FuncId} {xs : List Go.Operand} {tys : Array TypeId} {args : List IV} {s : IV} (hf : FnN C f args s) (hx : LentS σ H xs args) : OpR C ⟨d,.call { callee := .value (.func f),args := xs.toArray,argTypes := tys },ty,pos,after,gu⟩ σ H (.im s) := fun ρ μ a w hl ha hH => by
 obtain ⟨⟨fn,h1,h2,h3⟩,h4⟩ := hf
 have k3 := hx.at hl ha hH (fun x hx => by simp [Op.operands,Call.operands,hx])
 have h6 : (execOp a.eval ⟨d,.call { callee := .value (.func f),args := xs.toArray,argTypes := tys },ty,pos,after,gu⟩).run C.P w = .ok (.enter f (xs.map a.eval).toArray) w := by
  simp [execOp,resolve,Act.eval,Deferred.ofValue,invoke,oX h1 h2 h3]
 unfold Oper.wp
 rw [h6]
 refine Calls.mono (h4 _ w _ k3 (Agr.all w)) ?_
 rintro e w' ⟨v,μ1,rfl,h7,h8,h9,h10⟩
 obtain ⟨q1,q2⟩ := stp_or ha h8 h9 h10
 exact ⟨v,_,rfl,oi.2 (s.mono q2 h7),q1⟩
theorem oV {α : Type} {t rt st : TypeId} {x : Go.Operand} {dt : TyInf} {i o k : Nat} {enc : α → List IV} {xss : List (List α)} {xs : List α} (ht : C.tt t = some dt) (hag : aggB dt.und = false) (hx : Ev σ x (.off i o)) (hh : hget H i = some (.nest rt st k enc xss)) (hy : xss[o]? = some xs) :
 OpR C ⟨d,.load t x,ty,pos,after,gu⟩ σ H (.row (i + 1 + o) xs.length) := OpR.read fun ρ μ a w hl ha hH => by
 have h0 := hx.at hl (by simp [Op.operands])
 unfold SV.R at h0
 obtain ⟨g,h1,h2⟩ := h0
 obtain ⟨_,hk,⟨v,us,h3,h4,h5,h6⟩,_⟩ := hH.1 _ (om hh)
 obtain ⟨u,h7,h8,us',h9,_⟩ := h6 _ _ hy
 rw [h3] at h1
 simp only [Option.bind_some] at h1
 rw [oh h4] at h1
 have hcell : w.cell? ⟨g,o,none⟩ = some u := by
  rcases h4.2 with ⟨hv0,_⟩ | ⟨g',cap,cur,hv',_,hg',hnc,hcm,hcs,htake⟩
  ·rw [hv0] at h1;cases h1
  ·rw [hv'] at h1
   simp only [Value.ownBlock,Option.some.injEq] at h1
   subst h1
   rw [← htake,List.getElem?_take] at h7
   split at h7
   ·simp only [World.cell?,hg'];simpa using h7
   ·cases h7
 refine ⟨u,?_,?_⟩
 ·simp only [execOp,h2,Instr.loadAt,Instr.sureAddr,loadVar,Sem.run_bind,Sem.run_pure,Result.andThen_ok,(C.ok _ _ ht).agg w,hag,if_false,Bool.false_eq_true,run_load,hcell]
 ·unfold SV.R
  refine ⟨h8,?_⟩
  rcases h9.2 with ⟨rfl,hn⟩ | ⟨g',cap,cur,rfl,_⟩
  ·exact ⟨none,0,by rw [hn],.inl hn⟩
  ·exact ⟨_,cap,rfl,.inr ⟨g',rfl⟩⟩
theorem y5 {α : Type} {t rt st : TypeId} {x y : Go.Operand} {dt : TyInf} {i q o : Nat} {enc : α → List IV} {xss : List (List α)} {xs : List α} {z : α} {s : IV} (ht : C.tt t = some dt) (hn : Nat.beq 1 dt.size = true) (hx : Ev σ x (.off (i + 1 + q) o)) (hy : Ev σ y (.im s)) (hc : OneI s) (hh : hget H i = some (.nest rt st 1 enc xss)) (hq : xss[q]? = some xs) (hs : enc z = [s]) (hle : o < xs.length) :
 OpE C ⟨none,.store t x y,ty,pos,after,gu⟩ σ H fr (.im IV.any) (hset H i (.nest rt st 1 enc (xss.set q (xs.set o z)))) fr := fun ρ μ a w hl ha hH _ => by
 have h0 := hx.at hl (by simp [Op.operands])
 unfold SV.R at h0
 obtain ⟨g,h1,h2⟩ := h0
 have hm := om hh
 have hent := hH.1 _ hm
 have hql := (List.getElem?_eq_some_iff.1 hq).1
 obtain ⟨hl16,h6,⟨v,us,h3,h4,h5,h7⟩,hdis⟩ := hent
 obtain ⟨u,k1,k2,us',k4,k5,k6,k7⟩ := h7 _ _ hq
 rw [k2] at h1
 simp only [Option.bind_some] at h1
 have hgu := h1
 rw [oh k4] at h1
 have h9 := hy.im hl (by simp [Op.operands])
 have hone := hc _ _ h9
 have hcells : (a.eval y).cells = #[a.eval y] := by
  revert hone
  cases a.eval y <;> intro hone <;> first | rfl | cases hone
 rcases k4.2 with ⟨hv0,_⟩ | ⟨g',cap,cur,hv',_,hg',hnc,hcm,hcs,htake⟩
 ·rw [hv0] at h1;cases h1
 ·subst hv'
  simp only [Value.ownBlock,Option.some.injEq] at h1
  subst h1
  have hlt : o < cur.size := by omega
  have hcell : w.cell? ⟨g',o,none⟩ = some cur[o] := by simp [World.cell?,hg',hlt]
  have hfro : w.frozen? ⟨g',o,none⟩ = false := by simp [World.frozen?,hg']
  have hadd : (⟨g',o,none⟩ : Addr).add 0 = ⟨g',o,none⟩ := by simp [Addr.add]
  have hst := run_store C.P w ⟨g',o,none⟩ (a.eval y) .plain hone
  rw [hcell] at hst
  simp only [hfro,Bool.false_eq_true,if_false] at hst
  have hrun : (execOp a.eval ⟨none,.store t x y,ty,pos,after,gu⟩).run C.P w = .ok .skip (w.setCell ⟨g',o,none⟩ (a.eval y)) := by
   simp only [execOp,Instr.storeAt,h2,Instr.sureAddr,Sem.run_bind,Sem.run_pure,Result.andThen_ok,storeVar,(C.ok _ _ ht).size w,hcells,← Nat.eq_of_beq_eq_true hn]
   simp [storeCells,hadd,hst]
  have hst2 := World.ownsRow.stored k4 o (a.eval y)
  have hdj : ∀ j,j ≤ xss.length → j ≠ q + 1 → ∀ b,(ρ (i + j)).bind blk = some b → b ≠ g' := fun j hj hne b hb e => by
   subst e
   have := hdis j (q + 1) hj (by omega) hne b hb
   rw [show i + (q + 1) = i + 1 + q by omega,k2] at this
   exact this hgu
  have hturn : Turned w (w.setCell ⟨g',o,none⟩ (a.eval y)) (some g') := ⟨hst2.2.os,hst2.2.tape,hst2.2.output,hst2.2.size,fun b hb hne => hst2.2.block b hb (fun e => hne e)⟩
  have hother : ∀ b,b < w.heap.size → b ≠ g' → (w.setCell ⟨g',o,none⟩ (a.eval y)).heap[b]? = w.heap[b]? := fun b hb hne => hturn.block b hb fun e => hne (by injection e)
  have hnew : EntOk ρ μ (w.setCell ⟨g',o,none⟩ (a.eval y)) (i,HObj.nest rt st 1 enc (xss.set q (xs.set o z))) := by
   refine ⟨by rw [List.length_set];exact hl16,h6,⟨v,us,h3,?_,h5,fun j ys hj => ?_⟩,by rw [List.length_set];exact hdis⟩
   ·rw [List.length_set]
    refine uU h4 fun b hb => hother b (uw h4 hb) (hdj 0 (by omega) (by omega) b ?_)
    simp only [Nat.add_zero,h3,Option.bind_some];rw [oh h4];exact hb
   ·rw [List.getElem?_set] at hj
    by_cases e : q = j
    ·subst e
     rw [if_pos rfl,if_pos hql] at hj
     injection hj with hj
     subst hj
     refine ⟨_,k1,k2,us'.set o (a.eval y),by rw [List.length_set];exact hst2.1,by unfold IvFlat;rw [flat_set h6 hs];exact IVs_set h9 k5 o,k6,fun p hp => ?_⟩
     rcases List.mem_or_eq_of_mem_set hp with hp | hp
     ·exact k7 p hp
     ·subst hp;exact hone
    ·rw [if_neg e] at hj
     obtain ⟨u2,q1,q2,q3⟩ := h7 _ _ hj
     have hjl := (List.getElem?_eq_some_iff.1 hj).1
     refine ⟨u2,q1,q2,q3.keep (Mem.le.refl _) fun b hb => ?_⟩
     obtain ⟨us2,q4,_,q5,_⟩ := q3
     have hb2 : u2.ownBlock = some b := by rw [← oh q4];exact hb
     refine ⟨hother b (uw q4 hb2) (hdj (j + 1) (by omega) (by omega) b ?_),q5 b hb2⟩
     rw [show i + (j + 1) = i + 1 + j by omega,q2];exact hb
  obtain ⟨k8,k9⟩ := um hH ha hm hturn (fun b hb => by
   injection hb with hb;subst hb
   exact ⟨q + 1,by simp only [HObj.span];omega,by show (ρ (i + (q + 1))).bind blk = _;rw [show i + (q + 1) = i + 1 + q by omega,k2];exact hgu⟩) hnew (by simp [HObj.span])
  unfold Oper.wp
  rw [hrun]
  exact ⟨undef,μ,ρ,rfl,oi.2 trivial,k8,Nms.le.refl _,fun j hj => .inl hj,k9⟩
theorem hdel_ne {H : List Ent} {n m : Nat} {o : HObj} (h : (n,o) ∈ H) (hne : n ≠ m) : (n,o) ∈ hdel H m := by
 induction H with
 | nil => cases h
 | cons e H ih =>
  obtain ⟨q,o'⟩ := e
  simp only [hdel]
  cases hb : Nat.beq q m with
  | true =>
   rcases List.mem_cons.1 h with h | h
   ·injection h with h _;subst h;exact absurd (Nat.eq_of_beq_eq_true hb) hne
   ·exact ih h
  | false =>
   rcases List.mem_cons.1 h with h | h
   ·rw [h];exact List.mem_cons_self
   ·exact List.mem_cons_of_mem _ (ih h)
theorem oq {α : Type} {t et st : TypeId} {x y : Go.Operand} {de : TyInf} {r n j m k : Nat} {enc : α → List IV} {xss : List (List α)} {xs : List α} (hT : slT C t = some (et,de)) (hk : de.size = 1) (hz : Nat.beq de.zero.cells.size 1 = true) (hby : Nat.ble de.bytes 64 = true)
 (hx : Ev σ x (.row r n)) (hy : Ev σ y (.pk 1 [.row j m])) (hr : hget H r = some (.nest et st k enc xss)) (hj : hget H j = some (.row st k enc xs)) (hne : Nat.beq r j = false) (hl15 : xss.length < 15) :
 OpE C ⟨d,.call { callee := .builtin .append,args := #[x,y],argTypes := #[t,t] },ty,pos,after,gu⟩ σ H fr (.row fr (xss.length + 1)) ((fr,.nest et st k enc (xss ++ [xs])) :: hdel (hdel H r) j) (fr + 16) := fun ρ μ a w hl ha hH hfree => by
 have h0 := hx.at hl (by simp [Op.operands,Call.operands])
 unfold SV.R at h0
 obtain ⟨h1,_⟩ := h0
 have hrj : r ≠ j := Nat.ne_of_beq_eq_false hne
 have hmr := om hr
 have hmj := om hj
 have hentr := hH.1 _ hmr
 have hentj := hH.1 _ hmj
 have hnamr := hentr.names
 obtain ⟨hl16,hkk,⟨v,us,h3,h4,h5,h6⟩,hdis⟩ := hentr
 obtain ⟨u,k1,k2,_⟩ := hentj.rowOk
 rw [h3] at h1
 injection h1 with h1
 have h7 := hy.at hl (by simp [Op.operands,Call.operands])
 unfold SV.R at h7
 obtain ⟨b,vs,h8,h9,h10,h11⟩ := h7
 unfold SV.Rs at h10
 obtain ⟨u2,vs2,rfl,h12,h13⟩ := h10
 unfold SV.Rs at h13
 subst h13
 unfold SV.R at h12
 have hu2 : u = u2 := by rw [k1] at h12;exact Option.some.inj h12.1
 subst hu2
 obtain ⟨hu,hTe⟩ := jd hT
 obtain ⟨tt,fz,hheap⟩ := ha b _ h9
 have hcell : w.cell? ⟨b,0,none⟩ = some u := by simp [World.cell?,hheap]
 have hb64 := Nat.le_of_ble_eq_true hby
 rw [← hk] at h4
 obtain ⟨v',w',hrn,h15,h16,h17⟩ := run_app (P := C.P) w t ty et de hu hTe (by rw [hk];exact Nat.eq_of_beq_eq_true hz) (by omega) v xss.length us h4 (some ⟨b,0,none⟩) 1 1 [u] (by simp [hk]) (.inr ⟨_,rfl,fun q p hp => by
  cases q with
  | zero => simp at hp;subst hp;simpa [Addr.add] using hcell
  | succ q => simp at hp⟩) h11 (by simp only [maxLen];omega) (by
   have : (xss.length + 1) * de.bytes ≤ 16 * 64 := Nat.mul_le_mul (by omega) hb64
   omega)
 rw [hk] at h4 h15
 have hrun : (execOp a.eval ⟨d,.call { callee := .builtin .append,args := #[x,y],argTypes := #[t,t] },ty,pos,after,gu⟩).run C.P w = .ok (.value v') w' := by
  simp only [execOp,resolve,invoke,builtin,Sem.run_bind,Sem.run_pure,Result.andThen_ok,List.map_toArray,List.map_cons,List.map_nil,← h1,h8,hrn]
 obtain ⟨ρ',hρ'⟩ : ∃ ρ' : Nms,ρ' = fun q => if q < fr then ρ q else if q = fr then some v' else if q ≤ fr + xss.length then ρ (r + (q - fr)) else if q = fr + xss.length + 1 then ρ j else ρ q := ⟨_,rfl⟩
 have A0 : ρ' fr = some v' := by rw [hρ'];simp
 have A1 : ∀ q,q < xss.length → ρ' (fr + 1 + q) = ρ (r + 1 + q) := fun q hq => by
  rw [hρ']
  simp only
  rw [if_neg (by omega),if_neg (by omega),if_pos (by omega),show r + (fr + 1 + q - fr) = r + 1 + q by omega]
 have A2 : ρ' (fr + 1 + xss.length) = some u := by
  rw [hρ']
  simp only
  rw [if_neg (by omega),if_neg (by omega),if_neg (by omega),if_pos (by omega),k1]
 have A3 : Nms.le ρ ρ' := fun q p hp => by
  rw [hρ']
  simp only
  by_cases c1 : q < fr
  ·rw [if_pos c1];exact hp
  ·rw [if_neg c1]
   by_cases c2 : q < fr + 16
   ·rw [hfree q (by omega) c2] at hp;cases hp
   ·rw [if_neg (by omega),if_neg (by omega),if_neg (by omega)];exact hp
 have A4 : ∀ q,ρ' q ≠ none → ρ q ≠ none ∨ (fr ≤ q ∧ q < fr + 16) := fun q hq => by
  by_cases c1 : q < fr
  ·rw [hρ'] at hq;simp only [if_pos c1] at hq;exact .inl hq
  ·by_cases c2 : q < fr + 16
   ·exact .inr ⟨by omega,c2⟩
   ·rw [hρ'] at hq
    simp only at hq
    rw [if_neg c1,if_neg (by omega),if_neg (by omega),if_neg (by omega)] at hq
    exact .inl hq
 -- the blocks of the two
 have ebr0 : ∀ g,v.ownBlock = some g → eb ρ (r,.nest et st k enc xss) g := fun g hg => yh (by simp only [h3,Option.bind_some];rw [oh h4];exact hg)
 have ebrq : ∀ q g,q < xss.length → (ρ (r + 1 + q)).bind blk = some g → eb ρ (r,.nest et st k enc xss) g := fun q g hq hg => ⟨q + 1,by simp only [HObj.span];omega,by show (ρ (r + (q + 1))).bind blk = some g;rw [show r + (q + 1) = r + 1 + q by omega];exact hg⟩
 have ebj : ∀ g,blk u = some g → eb ρ (j,.row st k enc xs) g := fun g hg => yh (by simp only [k1,Option.bind_some];exact hg)
 have hrjd : ∀ g,eb ρ (r,.nest et st k enc xss) g → ¬ eb ρ (j,.row st k enc xs) g := fun g hg hg2 => hH.2 _ hmr _ hmj hrj g hg hg2
 have hv'b : ∀ g,blk v' = some g → v.ownBlock = some g ∨ g = w.heap.size := fun g hg => by
  rw [oh h15] at hg
  rcases h17 with h17 | h17
  ·exact .inl (h17 ▸ hg)
  ·rw [h17] at hg;injection hg with hg;exact .inr hg.symm
 have hnewb : ∀ g,eb ρ' (fr,.nest et st k enc (xss ++ [xs])) g → eb ρ (r,.nest et st k enc xss) g ∨ eb ρ (j,.row st k enc xs) g ∨ w.heap.size ≤ g := fun g ⟨q,hq,hg⟩ => by
  simp only [HObj.span,List.length_append,List.length_singleton] at hq
  simp only at hg
  by_cases c0 : q = 0
  ·subst c0
   rw [Nat.add_zero,A0] at hg
   rcases hv'b g hg with h | h
   ·exact .inl (ebr0 g h)
   ·exact .inr (.inr (by omega))
  ·by_cases c1 : q ≤ xss.length
   ·rw [show fr + q = fr + 1 + (q - 1) by omega,A1 _ (by omega)] at hg
    exact .inl (ebrq (q - 1) g (by omega) hg)
   ·rw [show fr + q = fr + 1 + xss.length by omega,A2] at hg
    exact .inr (.inl (ebj g hg))
 have hsame : ∀ g,g < w.heap.size → v.ownBlock ≠ some g → w'.heap[g]? = w.heap[g]? := fun g hg hne => h16.block g hg fun e => hne e.symm
 have hno : μ w.heap.size = none := by
  cases e : μ w.heap.size with
  | none => rfl
  | some q => exact absurd (ha.lt (b := w.heap.size) (by rw [e];simp)) (Nat.lt_irrefl _)
 have hrow : ∀ ys p,RowOk μ w st k enc ys p → (∀ g,blk p = some g → v.ownBlock ≠ some g) → RowOk μ w' st k enc ys p := fun ys p hp hne => hp.keep (Mem.le.refl _) fun g hg => by
  obtain ⟨us2,q4,_,q5,_⟩ := hp
  have hb2 : p.ownBlock = some g := by rw [← oh q4];exact hg
  exact ⟨hsame g (uw q4 hb2) (hne g hg),q5 g hb2⟩
 have hinner : ∀ q,q < xss.length → ∀ g,(ρ (r + 1 + q)).bind blk = some g → v.ownBlock ≠ some g := fun q hq g hg e => by
  refine hdis (q + 1) 0 (by omega) (Nat.zero_le _) (by omega) g (by rw [show r + (q + 1) = r + 1 + q by omega];exact hg) ?_
  simp only [Nat.add_zero,h3,Option.bind_some];rw [oh h4];exact e
 have hnew : EntOk ρ' μ w' (fr,.nest et st k enc (xss ++ [xs])) := by
  refine ⟨by simp;omega,hkk,⟨v',us ++ [u],A0,by rw [List.length_append];exact h15,fun g hg => ?_,fun q ys hq => ?_⟩,fun q q' hq hq' hqq g hg hg' => ?_⟩
  ·rcases hv'b g (by rw [oh h15];exact hg) with h | h
   ·exact h5 g h
   ·rw [h];exact hno
  ·have hlu : us.length = xss.length := by have := h4.1;omega
   by_cases c : q < xss.length
   ·rw [List.getElem?_append_left c] at hq
    obtain ⟨p,q1,q2,q3⟩ := h6 q ys hq
    exact ⟨p,by rw [List.getElem?_append_left (by omega)];exact q1,by rw [A1 q c];exact q2,hrow ys p q3 fun g hg => hinner q c g (by rw [q2];exact hg)⟩
   ·rw [List.getElem?_append_right (by omega)] at hq
    have : q = xss.length := by
     have := (List.getElem?_eq_some_iff.1 hq).1
     simp at this;omega
    subst this
    simp at hq
    subst hq
    exact ⟨u,by rw [List.getElem?_append_right (by omega),hlu];simp,A2,hrow xs u k2 fun g hg e => hrjd g (ebr0 g e) (ebj g hg)⟩
  ·simp only [List.length_append,List.length_singleton] at hq hq'
   have key : ∀ q,0 < q → q ≤ xss.length + 1 → ∀ g,(ρ' (fr + q)).bind blk = some g → blk v' ≠ some g := fun q h0 hq g hg hg' => by
    have hgl : g < w.heap.size ∧ v.ownBlock ≠ some g := by
     by_cases c1 : q ≤ xss.length
     ·rw [show fr + q = fr + 1 + (q - 1) by omega,A1 _ (by omega)] at hg
      exact ⟨((hH.1 _ hmr).lt (ebrq (q - 1) g (by omega) hg)).1,hinner (q - 1) (by omega) g hg⟩
     ·rw [show fr + q = fr + 1 + xss.length by omega,A2] at hg
      exact ⟨(hentj.lt (ebj g hg)).1,fun e => hrjd g (ebr0 g e) (ebj g hg)⟩
    rcases hv'b g hg' with h | h
    ·exact hgl.2 h
    ·omega
   by_cases c0 : q = 0
   ·subst c0
    rw [Nat.add_zero,A0] at hg
    exact key q' (by omega) (by omega) g hg' hg
   ·by_cases c0' : q' = 0
    ·subst c0'
     rw [Nat.add_zero,A0] at hg'
     exact key q (by omega) (by omega) g hg hg'
    ·by_cases c1 : q ≤ xss.length
     ·rw [show fr + q = fr + 1 + (q - 1) by omega,A1 _ (by omega)] at hg
      by_cases c1' : q' ≤ xss.length
      ·rw [show fr + q' = fr + 1 + (q' - 1) by omega,A1 _ (by omega)] at hg'
       refine hdis q q' c1 c1' hqq g ?_ ?_
       ·rw [show r + q = r + 1 + (q - 1) by omega];exact hg
       ·rw [show r + q' = r + 1 + (q' - 1) by omega];exact hg'
      ·rw [show fr + q' = fr + 1 + xss.length by omega,A2] at hg'
       exact hrjd g (ebrq (q - 1) g (by omega) hg) (ebj g hg')
     ·have c1' : q' ≤ xss.length := by omega
      rw [show fr + q = fr + 1 + xss.length by omega,A2] at hg
      rw [show fr + q' = fr + 1 + (q' - 1) by omega,A1 _ (by omega)] at hg'
      exact hrjd g (ebrq (q' - 1) g (by omega) hg') (ebj g hg)
 have hrest : ∀ e ∈ hdel (hdel H r) j,e ∈ H ∧ e.1 ≠ r ∧ e.1 ≠ j ∧ eb ρ' e = eb ρ e ∧ ∀ g,eb ρ e g → g < w.heap.size ∧ ¬ eb ρ (r,.nest et st k enc xss) g ∧ ¬ eb ρ (j,.row st k enc xs) g := fun e he => by
  obtain ⟨e1,e2⟩ := ov he
  obtain ⟨e3,e4⟩ := ov e1
  exact ⟨e3,e4,e2,eb_le A3 (hH.1 e e3).named,fun g hg => ⟨((hH.1 e e3).lt hg).1,fun h => hH.2 _ hmr e e3 (fun x => e4 x.symm) g h hg,fun h => hH.2 _ hmj e e3 (fun x => e2 x.symm) g h hg⟩⟩
 unfold Oper.wp
 rw [hrun]
 refine ⟨v',μ,ρ',rfl,?_,⟨fun e he => ?_,fun e he e' he' hnn g hg hg' => ?_⟩,A3,A4,⟨h16.os,h16.tape,h16.output,h16.size,fun g hg hg2 => hsame g hg fun e => hg2 _ hmr (ebr0 g e),Mem.le.refl _,fun b hb => .inl hb,fun b cs hb => ?_,fun e he g hg => ?_⟩⟩
 ·unfold SV.R
  refine ⟨A0,?_⟩
  rcases h15.2 with ⟨rfl,hn⟩ | ⟨g,cap,cur,rfl,_⟩
  ·exact ⟨none,0,by rw [hn],.inl hn⟩
  ·exact ⟨_,cap,rfl,.inr ⟨g,rfl⟩⟩
 ·rcases List.mem_cons.1 he with rfl | he
  ·exact hnew
  ·obtain ⟨e1,_,_,_,e5⟩ := hrest e he
   exact (hH.1 e e1).keep A3 (Mem.le.refl _) fun g hg => ⟨hsame g (e5 g hg).1 fun h => (e5 g hg).2.1 (ebr0 g h),((hH.1 e e1).lt hg).2⟩
 ·have key : ∀ e ∈ hdel (hdel H r) j,∀ g,eb ρ' (fr,.nest et st k enc (xss ++ [xs])) g → ¬ eb ρ' e g := fun e he g hg hg' => by
   obtain ⟨_,_,_,e4,e5⟩ := hrest e he
   rw [e4] at hg'
   obtain ⟨f1,f2,f3⟩ := e5 g hg'
   rcases hnewb g hg with h | h | h
   ·exact f2 h
   ·exact f3 h
   ·omega
  rcases List.mem_cons.1 he with rfl | he
  ·rcases List.mem_cons.1 he' with rfl | he'
   ·exact hnn rfl
   ·exact key e' he' g hg hg'
  ·rcases List.mem_cons.1 he' with rfl | he'
   ·exact key e he g hg' hg
   ·obtain ⟨e1,_,_,e4,_⟩ := hrest e he
    obtain ⟨e1',_,_,e4',_⟩ := hrest e' he'
    rw [e4] at hg
    rw [e4'] at hg'
    exact hH.2 e e1 e' e1' hnn g hg hg'
 ·obtain ⟨t2,fz2,hh⟩ := ha b cs hb
  have hbl := (Array.getElem?_eq_some_iff.1 hh).1
  exact ⟨t2,fz2,(hsame b hbl fun e => by rw [h5 b e] at hb;cases hb).trans hh⟩
 ·rcases List.mem_cons.1 he with rfl | he
  ·rcases hnewb g hg with h | h | h
   ·exact .inl ⟨_,hmr,h⟩
   ·exact .inl ⟨_,hmj,h⟩
   ·exact .inr h
  ·obtain ⟨e1,_,_,e4,_⟩ := hrest e he
   rw [e4] at hg
   exact .inl ⟨e,e1,hg⟩
end
section
variable {F : Fx} {nt : Nat} {x : St} {σ σ' : Env} {H H' : List Ent} {fr fr' : Nat}
theorem Inv.frUp {μ : Mem} {ρ : Nms} {a : Act} {w : World} (h : Inv F nt ⟨σ,H,fr⟩ μ ρ a w) (hle : fr ≤ fr') : Inv F nt ⟨σ,H,fr'⟩ μ ρ a w :=
 ⟨h.size,h.defers,h.env,h.agr,h.heap,fun i hi => Nat.lt_of_lt_of_le (h.nms i hi) hle,h.os,h.tape,h.output,h.hsize,h.block,h.le,h.new,h.own⟩
theorem Shift.nest0In {α : Type} (p j t et k : Nat) (enc : α → List IV) (hk : ∀ x,(enc x).length = k) {bt : TypeId} {cs : List SV} (hp : hget H p = some (.blk bt cs)) (hj : cs[j]? = some (.im (IV.val (.slice none 0 0)))) (_ : Nat.beq fr p = false) :
 Shift F nt ⟨σ,H,fr⟩ ⟨σ,hset ((fr,.nest t et k enc []) :: H) p (.blk bt (cs.set j (.row fr 0))),fr + 16⟩ := fun μ ρ a w hi => by
 have h2 := hi.new1 (v := .slice none 0 0) (ob := .nest t et k enc []) (Stp.refl hi.agr) ⟨by simp,hk,⟨_,[],oY _ _ _,World.ownsRow_nil _ _ _ _,fun g hg => (by cases hg),fun q xs hq => by simp at hq⟩,fun q q' hq hq' hne => by
  simp at hq hq';omega⟩ (fun g hg => by cases hg)
 have hm : (p,HObj.blk bt cs) ∈ (fr,HObj.nest t et k enc []) :: H := List.mem_cons_of_mem _ (om hp)
 have h3 : EntOk (upd ρ fr (.slice none 0 0)) μ w (p,.blk bt (cs.set j (.row fr 0))) := by
  obtain ⟨g,us,k1,k2,k3,k4,k5⟩ := h2.heap.1 _ hm
  refine ⟨g,us,k1,k2,?_,k4,k5⟩
  obtain ⟨v,k6,k7⟩ := k3.get hj
  have k7 : v = .slice none 0 0 := oi.1 k7
  subst k7
  have k8 := k3.set (s := .row fr 0) (v := .slice none 0 0) (by unfold SV.R;exact ⟨oY _ _ _,none,0,rfl,.inl rfl⟩) j
  have : us.toList.set j (.slice none 0 0) = us.toList := by
   apply List.ext_getElem?
   intro q
   rw [List.getElem?_set]
   split
   ·rename_i e;subst e;split
    ·rw [k6]
    ·rename_i hlt;rw [List.getElem?_eq_none (by omega)]
   ·rfl
  rwa [this] at k8
 obtain ⟨h4,_⟩ := um h2.heap h2.agr hm (gt := none) ⟨rfl,rfl,rfl,Nat.le_refl _,fun _ _ _ => rfl⟩ (fun _ h => by cases h) h3 rfl
 have h5 : Inv F nt ⟨σ,hset ((fr,HObj.nest t et k enc []) :: H) p (.blk bt (cs.set j (.row fr 0))),fr + 1⟩ μ (upd ρ fr (.slice none 0 0)) a w := by
  refine ⟨h2.size,h2.defers,h2.env,h2.agr,h4,h2.nms,h2.os,h2.tape,h2.output,h2.hsize,h2.block,h2.le,h2.new,fun e he g hg => ?_⟩
  rcases uK he with rfl | ⟨h5,_⟩
  ·exact h2.own _ hm g hg
  ·exact h2.own e h5 g hg
 exact ⟨μ,_,h5.frUp (by omega)⟩
theorem Inv.addEnt {μ : Mem} {ρ : Nms} {a : Act} {w : World} (h : Inv F nt ⟨σ,H,fr⟩ μ ρ a w) {i : Nat} {o : HObj} (hm : (i,o) ∈ H) : ∃ ν,Inv F nt ⟨σ,hdel H i,fr⟩ ν ρ a w ∧ Mem.le μ ν ∧ ∀ g cs t fz,eb ρ (i,o) g → w.heap[g]? = some (.cells cs t fz) → ν g = some cs := by
 classical
 obtain ⟨ν,hν⟩ : ∃ ν : Mem,ν = fun b => if eb ρ (i,o) b then Mem.all w b else μ b := ⟨_,rfl⟩
 have hle : Mem.le μ ν := fun b c hb => by
  rw [hν]
  by_cases e : eb ρ (i,o) b
  ·have := ((h.heap.1 _ hm).lt e).2;rw [this] at hb;cases hb
  ·simp only [if_neg e];exact hb
 refine ⟨ν,⟨h.size,h.defers,h.env.mono (Nms.le.refl _) hle,fun b c hb => ?_,⟨fun e he => ?_,fun e he e' he' => h.heap.2 e (ov he).1 e' (ov he').1⟩,h.nms,h.os,h.tape,h.output,h.hsize,h.block,h.le.trans hle,fun b hb => ?_,fun e he => h.own e (ov he).1⟩,hle,fun g cs t fz hg hh => ?_⟩
 ·rw [hν] at hb
  by_cases e : eb ρ (i,o) b
  ·simp only [if_pos e] at hb;exact Agr.all w b c hb
  ·simp only [if_neg e] at hb;exact h.agr b c hb
 ·obtain ⟨h1,h2⟩ := ov he
  refine (h.heap.1 e h1).keep (Nms.le.refl _) hle fun q hq => ⟨rfl,?_⟩
  rw [hν]
  simp only [if_neg (fun e2 => h.heap.2 _ hm e h1 (fun e3 => h2 e3.symm) q e2 hq)]
  exact ((h.heap.1 e h1).lt hq).2
 ·by_cases e : eb ρ (i,o) b
  ·exact .inr (h.own _ hm b e).symm
  ·rw [hν] at hb;simp only [if_neg e] at hb;exact h.new b hb
 ·rw [hν];simp only [if_pos hg];exact Mem.all_at hh
theorem Shift.frzNestIn {α : Type} (p j : Nat) {i n t et bt k : Nat} {cs : List SV} {enc : α → List IV} {xss : List (List α)} (hp : hget H p = some (.blk bt cs)) (hj : cs[j]? = some (.row i n)) (hh : hget H i = some (.nest t et k enc xss)) (hne : Nat.beq p i = false) :
 Shift F nt ⟨σ,H,fr⟩ ⟨σ,hset (hdel H i) p (.blk bt (cs.set j (.im (IV.view 1 (encN k enc) xss)))),fr⟩ := fun μ ρ a w hi => by
 have hm := om hh
 have hmp := om hp
 have hpi : p ≠ i := Nat.ne_of_beq_eq_false hne
 obtain ⟨ν,h1,h3',h4⟩ := hi.addEnt hm
 obtain ⟨v0,h5,h6⟩ := (hi.heap.1 _ hm).nestView h3' h4
 have hmd : (p,HObj.blk bt cs) ∈ hdel H i := hdel_ne hmp hpi
 have h3 : EntOk ρ ν w (p,.blk bt (cs.set j (.im (IV.view 1 (encN k enc) xss)))) := by
  obtain ⟨g,us,k1,k2,k3,k4,k5⟩ := h1.heap.1 _ hmd
  refine ⟨g,us,k1,k2,?_,k4,k5⟩
  obtain ⟨v,k6,k7⟩ := k3.get hj
  unfold SV.R at k7
  have hv : v = v0 := by rw [h5] at k7;exact (Option.some.inj k7.1).symm
  subst hv
  have k8 := k3.set (s := .im (IV.view 1 (encN k enc) xss)) (v := v) (oi.2 h6) j
  have : us.toList.set j v = us.toList := by
   apply List.ext_getElem?
   intro q
   rw [List.getElem?_set]
   split
   ·rename_i e;subst e;split
    ·rw [k6]
    ·rename_i hlt;rw [List.getElem?_eq_none (by omega)]
   ·rfl
  rwa [this] at k8
 obtain ⟨h7,_⟩ := um h1.heap h1.agr hmd (gt := none) ⟨rfl,rfl,rfl,Nat.le_refl _,fun _ _ _ => rfl⟩ (fun _ h => by cases h) h3 rfl
 refine ⟨ν,ρ,h1.size,h1.defers,h1.env,h1.agr,h7,h1.nms,h1.os,h1.tape,h1.output,h1.hsize,h1.block,h1.le,h1.new,fun e he g hg => ?_⟩
 rcases uK he with rfl | ⟨h8,_⟩
 ·exact h1.own _ hmd g hg
 ·exact h1.own e h8 g hg
end
section
variable {C : Cfg} {F : Fx} {nt : Nat} {fn : Func} {y : St} {args : List SV} {vs : List Value} {H' : List Ent}
inductive ResSv (C : Cfg) (y : St) : ResultVar → SV → Prop
 | tmp {t : Nat} {s : SV} (h : lk y.σ t = some s) : ResSv C y (.tmp t) s
 | im {r : ResultVar} {s : IV} (h : ResV C y r s) : ResSv C y r (.im s)
 | cell {t i : Nat} {ty bt : TypeId} {dt : TyInf} {cs : List SV} {sv : SV} (h : lk y.σ t = some (.off i 0)) (hh : hget y.H i = some (.blk bt cs)) (ht : C.tt ty = some dt) (hl : ldS dt cs = some sv) : ResSv C y (.cell t ty) sv
inductive ResSvs (C : Cfg) (y : St) : List ResultVar → List SV → Prop
 | nil : ResSvs C y [] []
 | cons {r : ResultVar} {s : SV} {l : List ResultVar} {l' : List SV} (h : ResSv C y r s) (t : ResSvs C y l l') : ResSvs C y (r :: l) (s :: l')
theorem ResSvs.len {rs : List ResultVar} {ss : List SV} (h : ResSvs C y rs ss) : rs.length = ss.length := by
 induction h with
 | nil => rfl
 | cons _ _ ih => simp [ih]
theorem ResSv.run {μ : Mem} {ρ : Nms} {a : Act} {w : World} (hi : Inv F nt y μ ρ a w) {r : ResultVar} {s : SV} (h : ResSv C y r s) : ∃ v,(resOf a r).run C.P w = .ok v w ∧ SV.R ρ μ s v := by
 cases h with
 | tmp h => exact ⟨_,rfl,hi.env _ _ h⟩
 | im h => obtain ⟨v,h1,h2⟩ := h.run hi;exact ⟨v,h1,oi.2 h2⟩
 | @cell t i ty bt dt cs sv h hh ht hl =>
  have h0 := hi.env _ _ h
  unfold SV.R at h0
  obtain ⟨g,h1,h2⟩ := h0
  obtain ⟨g',us,h3,h4,h5,h6,h7⟩ := hi.heap.1 _ (om hh)
  rw [h3] at h1
  simp only [Option.bind_some,blk,Option.some.injEq] at h1
  subst h1
  obtain ⟨v,h8,h9⟩ := j8 (ρ := ρ) (o := 0) (C.ok _ _ ht) h4 h5 h7 (by simpa using hl)
  refine ⟨v,?_,h9⟩
  show (do loadVar ty (← asAddr (a.tmps.getD t undef)) : Sem Value).run C.P w = _
  rw [h2]
  exact h8
theorem ResSvs.run {μ : Mem} {ρ : Nms} {a : Act} {w : World} (hi : Inv F nt y μ ρ a w) : ∀ {rs : List ResultVar} {ss : List SV},ResSvs C y rs ss → ∃ vs : List Value,(rs.mapM (resOf a)).run C.P w = .ok vs w ∧ SV.Rs ρ μ ss vs
 | _,_,.nil => ⟨[],by simp,by unfold SV.Rs;rfl⟩
 | _,_,.cons h t => by
  obtain ⟨v,h1,h2⟩ := h.run hi
  obtain ⟨vs,h3,h4⟩ := t.run hi
  exact ⟨v :: vs,by simp only [List.mapM_cons,Sem.run_bind,h1,Result.andThen_ok,h3,Sem.run_pure],by unfold SV.Rs;exact ⟨v,vs,rfl,h2,h4⟩⟩
theorem RetOkE.svs {rs : List ResultVar} {ss : List SV} {pt : List (Nat × Nat)} (hr : fn.results = rs.toArray) (hl : Nat.beq rs.length 1 = false) (h : ResSvs C y rs ss) (hH : HSb y.H H') (hk : Kept args vs y pt) : RetOkE C F nt fn args vs (.tup ss) H' pt y := fun μ ρ a w hi => by
 obtain ⟨us,h1,h2⟩ := h.run hi
 refine ⟨.tuple us.toArray,?_,by unfold SV.R;exact ⟨us,rfl,h2⟩,hH.at,hk.at hi⟩
 rw [yf hr h1]
 have h3 : us.length = rs.length := by rw [h2.length,h.len]
 rw [dif_neg]
 have := Nat.ne_of_beq_eq_false hl
 simpa [h3] using this
theorem RetOkE.sv1 {r : ResultVar} {s : SV} {pt : List (Nat × Nat)} (hr : fn.results = #[r]) (h : ResSv C y r s) (hH : HSb y.H H') (hk : Kept args vs y pt) : RetOkE C F nt fn args vs s H' pt y := fun μ ρ a w hi => by
 obtain ⟨v,h1,h2⟩ := h.run hi
 refine ⟨v,?_,h2,hH.at,hk.at hi⟩
 rw [yf (rs := [r]) (vs := [v]) hr (by simp [h1])]
 rfl
end
section
variable {C : Cfg} {σ : Env} {d : Option Tmp} {ty : TypeId} {pos : String} {after : Array Edge} {gu : Option (Nat × Bool)} {Hc : List Ent} {fr0 : Nat}
theorem j6 {f : FuncId} {xs : List Go.Operand} {tys : Array TypeId} {fr fr' : Nat} {args : List SV} {H H' : List Ent} {s : SV} {pn : List Nat} (ns : List Nat) (H2 : List Ent) (s2 : SV) (fr2 : Nat) (hf : FnE C f fr args H s H' fr' pn) (hx : EvsS σ (cfn ns fr0) xs args) (hin : HIn (cfn ns fr0) Hc H)
 (hs : s.rn (cfn ns fr0) = s2) (hH2 : hren (cfn ns fr0) H' ++ hdels Hc ns = H2) (hfr : fr0 + (fr' - fr) = fr2) (hn : Nat.beq ns.length fr = true) (hb : ns.all (ltB fr0) = true) (hd : nodupB ns = true) (hnb : nbAll (cfn ns fr0) H' = true) :
 OpE C ⟨d,.call { callee := .value (.func f),args := xs.toArray,argTypes := tys },ty,pos,after,gu⟩ σ Hc fr0 s2 H2 fr2 := by
 subst hs hH2 hfr
 exact o5 ns hf hx hn hb hd hin hnb
end
theorem Fn.of_new {C : Cfg} {f : FuncId} {args : List IV} {s : SV} {H' : List Ent} {fr' : Nat} {i : IV} (h : FnE C f 0 (args.map SV.im) [] s H' fr' []) (k : Lnd H' s i) : Fn C f args i := ⟨h.fn,fun μ w vs hvs ha => by
 refine Calls.mono (h.calls (fun _ => none) μ w vs (SV.Rs.im.2 hvs) ha ⟨(fun e he => by cases he),(fun e he => by cases he)⟩ (fun i hi => absurd rfl hi)) ?_
 rintro e w' ⟨v,μ',ρ',rfl,h1,h2,_,h4⟩
 classical
 obtain ⟨ν,hν⟩ : ∃ ν : Mem,ν = fun b => if ∃ e ∈ H',eb ρ' e b then Mem.all w' b else μ' b := ⟨_,rfl⟩
 have hle : Mem.le μ' ν := fun b c hb => by
  rw [hν]
  by_cases e : ∃ e ∈ H',eb ρ' e b
  ·obtain ⟨e0,he,hg⟩ := e
   have := ((h2.1 _ he).lt hg).2
   rw [this] at hb;cases hb
  ·simp only [if_neg e];exact hb
 refine ⟨v,ν,rfl,k.to hle h2 (fun e he g cs t fz hg hh => by rw [hν];simp only [if_pos (⟨e,he,hg⟩ : ∃ e ∈ H',eb ρ' e g)];exact Mem.all_at hh) h1,
  ⟨⟨h4.os,h4.tape,h4.output,h4.size,fun q hq => h4.block q hq (fun e he => by cases he)⟩,h4.le.trans hle,fun b hb => ?_,fun b c hb => ?_⟩⟩
 ·by_cases e : ∃ e ∈ H',eb ρ' e b
  ·obtain ⟨e0,he,hg⟩ := e
   rcases h4.own e0 he b hg with ⟨_,h5,_⟩ | h5
   ·cases h5
   ·exact .inr h5
  ·rw [hν] at hb
   simp only [if_neg e] at hb
   rcases h4.new b hb with h5 | h5 | ⟨_,h5,_⟩
   ·exact .inl h5
   ·exact .inr h5
   ·cases h5
 ·rw [hν] at hb
  by_cases e : ∃ e ∈ H',eb ρ' e b
  ·simp only [if_pos e] at hb;exact Agr.all w' b c hb
  ·simp only [if_neg e] at hb;exact h4.agr b c hb⟩
end Go.Proofs.YtjgmbgfcffnanaaGreatDoor
