/- Functions that may panic: a contract says that they return, or that they panic; a region may end in a call that panics. No condition. -/
import Derived.Test.YtjgmbgfcffnanaaGreatDoorZ17
namespace Go.Proofs.YtjgmbgfcffnanaaGreatDoor
open Go.RowKit
structure FnG (E : Value → Ending) (C : Cfg) (f : FuncId) (fr : Nat) (args : List SV) (H : List Ent) (s : SV) (H' : List Ent) (fr' : Nat) (pn : List Nat) : Prop where
 fn : ∃ fn,C.P.funcs[f]? = some fn ∧ fn.body.isNone = false ∧ (fn.name == "runtime.NumGoroutine") = false
 argsOk : SV.nms (ltB fr) args = true
 hOk : hOk (ltB fr) H = true
 resOk : SV.nm (pnB pn fr fr') s = true
 hOk' : Go.Proofs.YtjgmbgfcffnanaaGreatDoor.hOk (pnB pn fr fr') H' = true
 pnOk : pn.all (ltB fr) = true
 frOk : Nat.ble fr fr' = true
 calls : ∀ ρ μ w vs,SV.Rs ρ μ args vs → Agr μ w → HeapOk ρ μ w H → (∀ i,ρ i ≠ none → i < fr) → Calls C.P f vs.toArray w fun e w' => ∃ v μ' ρ',e = E v ∧ SV.R ρ' μ' s v ∧ HeapOk ρ' μ' w' H' ∧ (∀ i ∈ pn,ρ' i = ρ i) ∧ EStp ρ H μ w ρ' H' μ' w'
abbrev Chain := List PanicEntry
abbrev FnP (c : Chain) (C : Cfg) (f : FuncId) (fr : Nat) (args : List SV) (H Hp : List Ent) (fr' : Nat) (pn : List Nat) : Prop := FnG (fun _ => .panicked c) C f fr args H (.im IV.any) Hp fr' pn
section
variable {C : Cfg} {σ : Env} {d : Option Tmp} {ty : TypeId} {pos : String} {after : Array Edge} {gu : Option (Nat × Bool)} {Hc : List Ent} {fr0 : Nat}
theorem callG_post {E : Value → Ending} {f : FuncId} {fr fr' : Nat} {args : List SV} {H H' : List Ent} {s : SV} {pn : List Nat} (hf : FnG E C f fr args H s H' fr' pn) (ns : List Nat) (hn : Nat.beq ns.length fr = true) (hb : ns.all (ltB fr0) = true) (hd : nodupB ns = true)
 (hin : HIn (cfn ns fr0) Hc H) (hnb : nbAll (cfn ns fr0) H' = true) {ρ : Nms} {μ : Mem} {w : World} (ha : Agr μ w) (hH : HeapOk ρ μ w Hc) (hfree : ∀ i,fr0 ≤ i → i < fr0 + (fr' - fr) → ρ i = none) {vs : List Value} (hvs : SV.Rs ρ μ (SV.rns (cfn ns fr0) args) vs) :
 Calls C.P f vs.toArray w fun e w' => ∃ v μ' ρ',e = E v ∧ SV.R ρ' μ' (s.rn (cfn ns fr0)) v ∧ HeapOk ρ' μ' w' (hren (cfn ns fr0) H' ++ hdels Hc ns) ∧ Nms.le ρ ρ' ∧ (∀ i,ρ' i ≠ none → ρ i ≠ none ∨ (fr0 ≤ i ∧ i < fr0 + (fr' - fr))) ∧ EStp ρ Hc μ w ρ' (hren (cfn ns fr0) H' ++ hdels Hc ns) μ' w' := by
 have hn := Nat.eq_of_beq_eq_true hn
 have hfr := Nat.le_of_ble_eq_true hf.frOk
 have hlt : ∀ i,i < fr → ∃ j,ns[i]? = some j ∧ cfn ns fr0 i = j ∧ j < fr0 := fun i hi => by
  have h1 : i < ns.length := by omega
  refine ⟨ns[i],List.getElem?_eq_getElem h1,by unfold cfn;rw [List.getElem?_eq_getElem h1],?_⟩
  have := List.all_eq_true.1 hb ns[i] (List.getElem_mem h1)
  exact Nat.blt_eq ▸ this
 have hge : ∀ i,fr ≤ i → cfn ns fr0 i = fr0 + (i - fr) := fun i hi => by
  unfold cfn;rw [List.getElem?_eq_none (by omega)];simp only [hn]
 have hltB : ∀ i,ltB fr i = true → i < fr := fun i h => Nat.blt_eq ▸ h
 obtain ⟨ρ1,hρ1⟩ : ∃ ρ1 : Nms,ρ1 = fun i => if i < fr then ρ (cfn ns fr0 i) else none := ⟨_,rfl⟩
 have hag : ∀ i,ltB fr i = true → ρ (cfn ns fr0 i) = ρ1 i := fun i h => by rw [hρ1];simp only [if_pos (hltB i h)]
 have hHok := hOk_at hf.hOk
 have hok1 : ∀ e ∈ H,EntOk ρ1 μ w e := fun e he => (EntOk.rn hag (hHok e he).1.1 (hHok e he).1.2 (hin.at he).2 (hHok e he).2).1 (hH.1 _ (hin.at he).1)
 have hent : ∀ e ∈ H,(cfn ns fr0 e.1,e.2.rn (cfn ns fr0)) ∈ Hc ∧ eb ρ1 e = eb ρ (cfn ns fr0 e.1,e.2.rn (cfn ns fr0)) := fun e he => ⟨(hin.at he).1,(eb_rn hag (hHok e he).1.1 (hin.at he).2 (hHok e he).2 (hok1 e he)).symm⟩
 have hH1 : HeapOk ρ1 μ w H := by
  refine ⟨hok1,fun e he e' he' hne g hg => ?_⟩
  rw [(hent e he).2] at hg
  rw [(hent e' he').2]
  refine hH.2 _ (hent e he).1 _ (hent e' he').1 (fun h1 => hne ?_) g hg
  obtain ⟨j,h2,h3,_⟩ := hlt e.1 (hltB _ (hHok e he).1.1)
  obtain ⟨j',h2',h3',_⟩ := hlt e'.1 (hltB _ (hHok e' he').1.1)
  have h1 : cfn ns fr0 e.1 = cfn ns fr0 e'.1 := h1
  rw [h3,h3'] at h1
  subst h1
  exact nodupB_at hd h2 h2'
 refine Calls.mono (hf.calls ρ1 μ w vs ((SV.Rs_rn hag hf.argsOk).1 hvs) ha hH1 (fun i hi => by
  rw [hρ1] at hi
  by_cases h : i < fr
  ·exact h
  ·simp only [if_neg h] at hi;exact absurd rfl hi)) ?_
 rintro e w' ⟨v,μ',ρ1',rfl,h1,h2,h3,h4⟩
 obtain ⟨ρ',hρ'⟩ : ∃ ρ' : Nms,ρ' = fun j => if fr0 ≤ j ∧ j < fr0 + (fr' - fr) then ρ1' (j - fr0 + fr) else ρ j := ⟨_,rfl⟩
 have hle : Nms.le ρ ρ' := fun i u hi => by
  rw [hρ']
  by_cases h : fr0 ≤ i ∧ i < fr0 + (fr' - fr)
  ·rw [hfree i h.1 h.2] at hi;cases hi
  ·simp only [if_neg h];exact hi
 have hag' : ∀ i,pnB pn fr fr' i = true → ρ' (cfn ns fr0 i) = ρ1' i := fun i h => by
  unfold pnB at h
  rcases Bool.or_eq_true _ _ ▸ h with h5 | h5
  ·obtain ⟨k,h6,h7⟩ := List.any_eq_true.1 h5
   have := Nat.eq_of_beq_eq_true h7
   subst this
   have h8 := List.all_eq_true.1 hf.pnOk i h6
   obtain ⟨j,_,h9,h10⟩ := hlt i (hltB i h8)
   rw [h3 i h6,← hag i h8,hρ',h9]
   simp only [if_neg (show ¬ (fr0 ≤ j ∧ j < fr0 + (fr' - fr)) by omega)]
  ·simp only [Bool.and_eq_true] at h5
   have h6 := Nat.le_of_ble_eq_true h5.1
   have h7 : i < fr' := Nat.blt_eq ▸ h5.2
   rw [hge i h6,hρ']
   simp only [if_pos (show fr0 ≤ fr0 + (i - fr) ∧ fr0 + (i - fr) < fr0 + (fr' - fr) by omega)]
   rw [show fr0 + (i - fr) - fr0 + fr = i by omega]
 have hHok' := hOk_at hf.hOk'
 have hout : ∀ e ∈ hren (cfn ns fr0) H',∃ e0 ∈ H',e = (cfn ns fr0 e0.1,e0.2.rn (cfn ns fr0)) ∧ eb ρ' e = eb ρ1' e0 := fun e he => by
  obtain ⟨e0,h5,rfl⟩ := hren_mem he
  exact ⟨e0,h5,rfl,eb_rn hag' (hHok' e0 h5).1.1 (jC hnb e0 h5) (hHok' e0 h5).2 (h2.1 e0 h5)⟩
 have hrest : ∀ e ∈ hdels Hc ns,e ∈ Hc ∧ eb ρ' e = eb ρ e ∧ ∀ g,eb ρ e g → ∀ e0 ∈ H,¬ eb ρ1 e0 g := fun e he => by
  obtain ⟨h5,h6⟩ := hdels_mem he
  refine ⟨h5,eb_le hle (hH.1 e h5).named,fun g hg e0 he0 hg0 => ?_⟩
  rw [(hent e0 he0).2] at hg0
  refine hH.2 _ (hent e0 he0).1 e h5 (fun h7 => h6 ?_) g hg0 hg
  obtain ⟨j,h8,h9,_⟩ := hlt e0.1 (hltB _ (hHok e0 he0).1.1)
  have h7 : cfn ns fr0 e0.1 = e.1 := h7
  rw [h9] at h7
  subst h7
  exact List.mem_of_getElem? h8
 refine ⟨v,μ',ρ',rfl,(SV.R_rn hag' hf.resOk).2 h1,⟨fun e he => ?_,fun e he e' he' hne g hg hg' => ?_⟩,hle,fun i hi => ?_,⟨h4.os,h4.tape,h4.output,h4.size,fun k hk hno => h4.block k hk fun e he => ?_,h4.le,fun b hb => ?_,h4.agr,fun e he g hg => ?_⟩⟩
 ·rcases List.mem_append.1 he with he | he
  ·obtain ⟨e0,h5,rfl,_⟩ := hout e he
   exact (EntOk.rn hag' (hHok' e0 h5).1.1 (hHok' e0 h5).1.2 (jC hnb e0 h5) (hHok' e0 h5).2).2 (h2.1 e0 h5)
  ·obtain ⟨h5,h6,h7⟩ := hrest e he
   refine (hH.1 e h5).keep hle h4.le fun g hg => ?_
   obtain ⟨h8,h9⟩ := (hH.1 e h5).lt hg
   refine ⟨h4.block g h8 (h7 g hg),?_⟩
   cases e1 : μ' g with
   | none => rfl
   | some cs =>
    rcases h4.new g (by rw [e1];simp) with h10 | h10 | ⟨e0,h10,h11⟩
    ·exact absurd h9 h10
    ·omega
    ·exact absurd h11 (h7 g hg e0 h10)
 ·have key : ∀ e ∈ hren (cfn ns fr0) H',∀ e' ∈ hdels Hc ns,∀ g,eb ρ' e g → ¬ eb ρ' e' g := fun e he e' he' g hg hg' => by
   obtain ⟨e0,h5,rfl,h6⟩ := hout e he
   obtain ⟨h7,h8,h9⟩ := hrest e' he'
   rw [h6] at hg
   rw [h8] at hg'
   rcases h4.own e0 h5 g hg with ⟨e1,h10,h11⟩ | h10
   ·exact h9 g hg' e1 h10 h11
   ·have := ((hH.1 e' h7).lt hg').1;omega
  rcases List.mem_append.1 he with he | he
  ·rcases List.mem_append.1 he' with he' | he'
   ·obtain ⟨e0,h5,rfl,h6⟩ := hout e he
    obtain ⟨e0',h5',rfl,h6'⟩ := hout e' he'
    rw [h6] at hg
    rw [h6'] at hg'
    exact h2.2 e0 h5 e0' h5' (fun h => hne (by simp only [h])) g hg hg'
   ·exact key e he e' he' g hg hg'
  ·rcases List.mem_append.1 he' with he' | he'
   ·exact key e' he' e he g hg' hg
   ·obtain ⟨h5,h6,_⟩ := hrest e he
    obtain ⟨h5',h6',_⟩ := hrest e' he'
    rw [h6] at hg
    rw [h6'] at hg'
    exact hH.2 e h5 e' h5' hne g hg hg'
 ·rw [hρ'] at hi
  by_cases h : fr0 ≤ i ∧ i < fr0 + (fr' - fr)
  ·exact .inr h
  ·simp only [if_neg h] at hi;exact .inl hi
 ·rw [(hent e he).2]
  exact hno _ (hent e he).1
 ·rcases h4.new b hb with h5 | h5 | ⟨e,h5,h6⟩
  ·exact .inl h5
  ·exact .inr (.inl h5)
  ·exact .inr (.inr ⟨_,(hent e h5).1,by rw [← (hent e h5).2];exact h6⟩)
 ·rcases List.mem_append.1 he with he | he
  ·obtain ⟨e0,h5,rfl,h6⟩ := hout e he
   rw [h6] at hg
   rcases h4.own e0 h5 g hg with ⟨e1,h7,h8⟩ | h7
   ·exact .inl ⟨_,(hent e1 h7).1,by rw [← (hent e1 h7).2];exact h8⟩
   ·exact .inr h7
  ·obtain ⟨h5,h6,_⟩ := hrest e he
   rw [h6] at hg
   exact .inl ⟨e,h5,hg⟩
end
def LX (C : Cfg) (F : Fx) (nt : Nat) (ops : Array Oper) (l : List Oper) (Q : Exit → St → Prop) (x : St) : Prop :=
 ∀ μ ρ a w,Inv F nt x μ ρ a w → wpListIn F.fen 9 C.P ops (fun e a' w' => ∃ y μ' ρ',Q e y ∧ Inv F nt y μ' ρ' a' w') l a w
section
variable {C : Cfg} {F : Fx} {nt : Nat} {ops : Array Oper} {l : List Oper} {o : Oper} {Q : Exit → St → Prop} {x y : St}
theorem LX.step {k : Nat} {s : SV} (h : Step1 C ops nt k o x s y) (t : LX C F nt ops l Q y) : LX C F nt ops (o :: l) Q x := fun μ ρ a w hi => by
 have h1 := Step1.sound h hi
 unfold Next1 at h1
 unfold wpListIn
 split
 ·rename_i hw
  rw [if_pos hw] at h1
  exact jG (fun a' w' ⟨_,_,h3⟩ => h3.defers.trans hi.defers.symm) (fun a' w' ⟨μ',ρ',h2⟩ => t _ _ _ _ h2) h1
 ·rename_i hw
  rw [if_neg hw] at h1
  obtain ⟨μ',ρ',h2⟩ := h1
  exact ⟨fun _ _ => trivial,t _ _ _ _ h2⟩
def OpP (C : Cfg) (o : Oper) (σ : Env) (H : List Ent) (fr : Nat) (c : Chain) (H' : List Ent) (fr' : Nat) : Prop := fr ≤ fr' ∧ o.guard = none ∧ ∀ {F : Fx} ρ μ a w,LookOk ρ μ σ o a → Agr μ w → HeapOk ρ μ w H → (∀ i,fr ≤ i → i < fr' → ρ i = none) → ∀ K Q,
 (∀ a' w' μ' ρ',a'.tmps = a.tmps → a'.defers = a.defers → HeapOk ρ' μ' w' H' → Nms.le ρ ρ' → (∀ i,ρ' i ≠ none → ρ i ≠ none ∨ (fr ≤ i ∧ i < fr')) → EStp ρ H μ w ρ' H' μ' w' → Q (.panic c) a' w') → o.wpIn F.fen 9 C.P a w K Q
theorem LX.pan {c : Chain} {H' : List Ent} {fr' : Nat} (h : OpP C o x.σ x.H x.fr c H' fr') (hq : Q (.panic c) ⟨x.σ,H',fr'⟩) : LX C F nt ops (o :: l) Q x := fun μ ρ a w hi => by
 unfold wpListIn
 rw [if_pos (by simp [Region.wanted,h.2.1])]
 refine h.2.2 ρ μ a w (hi.env.look o) hi.agr hi.heap (fun i h1 h2 => ?_) _ _ fun a' w' μ' ρ' e1 e2 k1 k2 k3 k4 => ?_
 ·cases e : ρ i with
  | none => rfl
  | some u => have := hi.nms i (by rw [e];simp);omega
 ·have h2 := hi.estp h.1 k1 k2 k3 k4
  exact ⟨_,μ',ρ',hq,⟨by rw [e1];exact h2.size,by rw [e2];exact h2.defers,by rw [e1];exact h2.env,h2.agr,h2.heap,h2.nms,h2.os,h2.tape,h2.output,h2.hsize,h2.block,h2.le,h2.new,h2.own⟩⟩
theorem WP.xreg {id : Nat} {l : List Oper} (h : LX C F nt l.toArray l Q x) : WP C F nt (.region id l.toArray false) Q x := fun μ ρ a w hi => wpIn_region_lit (h μ ρ a w hi)
end
section
variable {C : Cfg} {σ : Env} {d : Option Tmp} {ty : TypeId} {pos : String} {after : Array Edge} {Hc : List Ent} {fr0 : Nat}
theorem opp_panic {x : Go.Operand} {v : Value} {c : Chain} (hx : Ev σ x (.im (IV.val v))) (hv : (∃ t u,v = .iface t u)) (hc : c = [{ v := v,recovered := false }]) : OpP C ⟨d,.panic x,ty,pos,after,none⟩ σ Hc fr0 c Hc fr0 := ⟨Nat.le_refl _,rfl,fun ρ μ a w hl ha hH _ K Q hq => by
 subst hc
 obtain ⟨t,u,rfl⟩ := hv
 have h1 : a.eval x = .iface t u := hx.val hl (by simp [Op.operands])
 refine ⟨fun _ _ => trivial,?_⟩
 rw [Oper.semAt_eq _ _ _ (fun c e => by cases e)]
 have h2 : (execOp a.eval ⟨d,.panic x,ty,pos,after,none⟩).run C.P w = .halt (.panic (.iface t u)) w := by
  simp [execOp,h1,Instr.panic]
 rw [h2,Oper.uponIn_panic]
 exact hq a w μ ρ rfl rfl hH (Nms.le.refl _) (fun i h => .inl h) ⟨rfl,rfl,rfl,Nat.le_refl _,fun _ _ _ => rfl,Mem.le.refl _,fun b hb => .inl hb,ha,fun e he g hg => .inl ⟨e,he,hg⟩⟩⟩
theorem og {f : FuncId} {xs : List Go.Operand} {tys : Array TypeId} {fr fr' : Nat} {args : List SV} {H Hp : List Ent} {c : Chain} {pn : List Nat} (ns : List Nat) (hf : FnP c C f fr args H Hp fr' pn) (hx : EvsS σ (cfn ns fr0) xs args) (hn : Nat.beq ns.length fr = true) (hb : ns.all (ltB fr0) = true) (hd : nodupB ns = true) (hin : HIn (cfn ns fr0) Hc H) (hnb : nbAll (cfn ns fr0) Hp = true := by rfl) :
 OpP C ⟨d,.call { callee := .value (.func f),args := xs.toArray,argTypes := tys },ty,pos,after,none⟩ σ Hc fr0 c (hren (cfn ns fr0) Hp ++ hdels Hc ns) (fr0 + (fr' - fr)) := ⟨Nat.le_add_right _ _,rfl,fun ρ μ a w hl ha hH hfree K Q hq => by
 obtain ⟨fn,h1,h2,h3⟩ := hf.fn
 have h5 := hx.at hl (fun x hx => by simp [Op.operands,Call.operands,hx])
 have h6 : (execOp a.eval ⟨d,.call { callee := .value (.func f),args := xs.toArray,argTypes := tys },ty,pos,after,none⟩).run C.P w = .ok (.enter f (xs.map a.eval).toArray) w := by
  simp [execOp,resolve,Act.eval,Deferred.ofValue,invoke,oX h1 h2 h3]
 refine ⟨fun _ _ => trivial,?_⟩
 rw [Oper.semAt_eq _ _ _ (fun c e => by cases e),h6,Oper.uponIn_enter]
 refine ⟨fun hd => (by cases hd),callsIn_wide.2 (Calls.mono (callG_post hf ns hn hb hd hin hnb ha hH hfree h5) ?_)⟩
 rintro e w' ⟨v,μ',ρ',rfl,k1,k2,k3,k4,k5⟩
 exact hq a w' μ' ρ' rfl rfl k2 k3 k4 k5⟩
theorem ql {f : FuncId} {x : Go.Operand} {xs : List Go.Operand} {tys : Array TypeId} {fr fr' : Nat} {args caps : List SV} {H Hp : List Ent} {c : Chain} {pn : List Nat} (ns : List Nat) (hv : Ev σ x (.fn f (SV.rns (cfn ns fr0) caps))) (hf : FnP c C f fr (args ++ caps) H Hp fr' pn) (hx : EvsS σ (cfn ns fr0) xs args) (hn : Nat.beq ns.length fr = true) (hb : ns.all (ltB fr0) = true) (hd : nodupB ns = true) (hin : HIn (cfn ns fr0) Hc H) (hnb : nbAll (cfn ns fr0) Hp = true := by rfl) :
 OpP C ⟨d,.call { callee := .value x,args := xs.toArray,argTypes := tys },ty,pos,after,none⟩ σ Hc fr0 c (hren (cfn ns fr0) Hp ++ hdels Hc ns) (fr0 + (fr' - fr)) := ⟨Nat.le_add_right _ _,rfl,fun ρ μ a w hl ha hH hfree K Q hq => by
 obtain ⟨fn,h1,h2,h3⟩ := hf.fn
 have h9 := hv.at hl (by simp [Op.operands,Call.operands])
 unfold SV.R at h9
 obtain ⟨cs,h9,h10⟩ := h9
 have h5 := hx.at hl (fun x hx => by simp [Op.operands,Call.operands,hx])
 have h6 : (execOp a.eval ⟨d,.call { callee := .value x,args := xs.toArray,argTypes := tys },ty,pos,after,none⟩).run C.P w = .ok (.enter f (xs.map a.eval ++ cs).toArray) w := by
  simp [execOp,resolve,h9,Deferred.ofValue,invoke,oX h1 h2 h3]
 refine ⟨fun _ _ => trivial,?_⟩
 rw [Oper.semAt_eq _ _ _ (fun c e => by cases e),h6,Oper.uponIn_enter]
 refine ⟨fun hd => (by cases hd),callsIn_wide.2 (Calls.mono (callG_post hf ns hn hb hd hin hnb ha hH hfree (by rw [vE];exact Rs_append h5 h10)) ?_)⟩
 rintro e w' ⟨v,μ',ρ',rfl,k1,k2,k3,k4,k5⟩
 exact hq a w' μ' ρ' rfl rfl k2 k3 k4 k5⟩
end
theorem WP.weak {C : Cfg} {F : Fx} {nt : Nat} {c : Code} {Q Q' : Exit → St → Prop} {x : St} (h : WP C F nt c Q x) (hq : ∀ e y,Q e y → Q' e y) : WP C F nt c Q' x := fun μ ρ a w hi => wpIn_mono (h μ ρ a w hi) fun e _ _ ⟨y,μ',ρ',h1,h2⟩ => ⟨y,μ',ρ',hq e y h1,h2⟩
def FnPQ (args : List SV) (vs : List Value) (ch : Chain) (H' : List Ent) (pt : List (Nat × Nat)) : Exit → St → Prop
 | .panic c',y => c' = ch ∧ HSb y.H H' ∧ Kept args vs y pt
 | _,_ => False
theorem FnP.of_wp {C : Cfg} {f : FuncId} {fn : Func} {c : Code} {fr fr' : Nat} {args : List SV} {H H' : List Ent} {ch : Chain} {pn : List Nat} (nt : Nat) (pt : List (Nat × Nat)) (hf : C.P.funcs[f]? = some fn) (hb : fn.body = some c) (hname : (fn.name == "runtime.NumGoroutine") = false) (hnt : fn.ntmps = nt) (hn : Nat.ble args.length nt = true)
 (h1 : SV.nms (ltB fr) args = true) (h2 : Go.Proofs.YtjgmbgfcffnanaaGreatDoor.hOk (ltB fr) H = true) (h4 : Go.Proofs.YtjgmbgfcffnanaaGreatDoor.hOk (pnB pn fr fr') H' = true) (h5 : pn.all (ltB fr) = true) (h6 : Nat.ble fr fr' = true) (h7 : pinOk args H H' pt = true) (h8 : pn = pt.map (·.1))
 (h : ∀ (F : Fx) (vs : List Value),F.D = [] → vs.length = args.length → WP C F nt c (FnPQ args vs ch H' pt) ⟨envS 0 args vs,H,fr⟩) : FnP ch C f fr args H H' fr' pn := by
 refine ⟨⟨fn,hf,by rw [hb];rfl,hname⟩,h1,h2,rfl,h4,h5,h6,fun ρ μ w vs hvs ha hH hnm => ?_⟩
 have hlen := hvs.length
 refine calls_of_wp hf hb ((wpIn_wide (n := 9)).1 ?_)
 have hle := Nat.le_of_ble_eq_true hn
 have hi : Inv ⟨w,μ,fun g => ∃ e ∈ H,eb ρ e g,[],none⟩ nt ⟨envS 0 args vs,H,fr⟩ μ ρ { tmps := vs.toArray ++ Array.replicate (fn.ntmps - vs.toArray.size) undef,defers := [] } w := by
  refine ⟨by simp;omega,rfl,fun t s hs => ?_,ha,hH,hnm,rfl,rfl,rfl,Nat.le_refl _,fun _ _ _ => rfl,Mem.le.refl _,fun b hb => .inl hb,fun e he g hg => .inl ⟨e,he,hg⟩⟩
  obtain ⟨j,v,k1,k2,k3⟩ := envS_at hvs hs
  rw [Nat.zero_add] at k1
  subst k1
  have hj : t < vs.length := (List.getElem?_eq_some_iff.1 k2).1
  have : (vs.toArray ++ Array.replicate (fn.ntmps - vs.toArray.size) undef).getD t undef = v := by
   rw [Array.getD_eq_getD_getElem?,Array.getElem?_append_left (by simpa using hj)]
   simp [k2]
  rw [this];exact k3
 refine wpIn_mono (h ⟨w,μ,fun g => ∃ e ∈ H,eb ρ e g,[],none⟩ vs rfl hlen μ ρ _ w hi) ?_
 rintro e a' w' ⟨y,μ',ρ',hq,hy⟩
 have key : HSb y.H H' → Kept args vs y pt → a'.defers = [] ∧ ∃ v μ' ρ',Ending.panicked ch = .panicked ch ∧ SV.R ρ' μ' (.im IV.any) v ∧ HeapOk ρ' μ' w' H' ∧ (∀ i ∈ pn,ρ' i = ρ i) ∧ EStp ρ H μ w ρ' H' μ' w' := fun k3 k4 => by
  have k3 := k3.at
  have k4 := k4.at hy
  refine ⟨hy.defers,undef,μ',ρ',rfl,trivial,hy.heap.sub k3,fun i hi => ?_,⟨hy.os,hy.tape,hy.output,hy.hsize,fun k hk hno => hy.block k hk (fun ⟨e,he,hg⟩ => hno e he hg),hy.le,hy.new,hy.agr,fun e he g hg => hy.own e (k3 e he) g hg⟩⟩
  rw [h8,List.mem_map] at hi
  obtain ⟨p,hp,rfl⟩ := hi
  have k5 := List.all_eq_true.1 h7 p hp
  obtain ⟨s1,v1,k6,k7,k8⟩ := k4 p hp
  simp only [k6,Bool.or_eq_true,Bool.and_eq_true] at k5
  obtain ⟨v1',k7',k9⟩ := hvs.get k6
  rw [k7] at k7'
  injection k7' with k7'
  subst k7'
  rcases k5 with k5 | ⟨⟨k5,k6⟩,k7⟩
  ·exact SV.pinS_at hy.le k5 k9 k8
  ·obtain ⟨g,k8,k9⟩ := SV.pinW_at hy.le k5 k9 k8
   obtain ⟨g1,k10⟩ := qY k6 hH
   obtain ⟨g2,k11⟩ := qY k7 (hy.heap.sub k3)
   rw [k10] at k8
   rw [k11] at k9
   simp only [Option.bind_some,blk,Option.some.injEq] at k8 k9
   rw [k10,k11,k8,k9]
 cases e with
 | panic c' =>
  obtain ⟨rfl,k3,k4⟩ := hq
  exact key k3 k4
 | _ => exact hq.elim
def FnX (C : Cfg) (f : FuncId) (fr : Nat) (args : List SV) (H : List Ent) (o : Option (SV × List Ent)) (fr' : Nat) (pn : List Nat) (ch : Chain) (Hp : List Ent) (pp : List Nat) : Prop := match o with
 | some r => FnE C f fr args H r.1 r.2 fr' pn
 | none => FnP ch C f fr args H Hp fr pp
theorem FnX.ok {C : Cfg} {f : FuncId} {fr : Nat} {args : List SV} {H : List Ent} {o : Option (SV × List Ent)} {fr' : Nat} {pn : List Nat} {ch : Chain} {Hp : List Ent} {pp : List Nat} (h : FnX C f fr args H o fr' pn ch Hp pp) {s : SV} {H' : List Ent} (ho : o = some (s,H')) : FnE C f fr args H s H' fr' pn := by
 subst ho;exact h
theorem FnX.no {C : Cfg} {f : FuncId} {fr : Nat} {args : List SV} {H : List Ent} {o : Option (SV × List Ent)} {fr' : Nat} {pn : List Nat} {ch : Chain} {Hp : List Ent} {pp : List Nat} (h : FnX C f fr args H o fr' pn ch Hp pp) (ho : o = none) : FnP ch C f fr args H Hp fr pp := by
 subst ho;exact h
def FnXQ (C : Cfg) (F : Fx) (nt : Nat) (fn : Func) (args : List SV) (vs : List Value) (o : Option (SV × List Ent)) (pt : List (Nat × Nat)) (ch : Chain) (Hp : List Ent) (ptp : List (Nat × Nat)) : Exit → St → Prop
 | .normal,y => ∃ s H',o = some (s,H') ∧ RetOkE C F nt fn args vs s H' pt y
 | .ret,y => ∃ s H',o = some (s,H') ∧ RetOkE C F nt fn args vs s H' pt y
 | .panic c',y => o = none ∧ c' = ch ∧ HSb y.H Hp ∧ Kept args vs y ptp
 | _,_ => False
theorem FnX.of_wp {C : Cfg} {f : FuncId} {fn : Func} {c : Code} {fr fr' : Nat} {args : List SV} {H : List Ent} {o : Option (SV × List Ent)} {pn : List Nat} {ch : Chain} {Hp : List Ent} {pp : List Nat} (nt : Nat) (pt ptp : List (Nat × Nat)) (hf : C.P.funcs[f]? = some fn) (hb : fn.body = some c) (hname : (fn.name == "runtime.NumGoroutine") = false) (hnt : fn.ntmps = nt) (hn : Nat.ble args.length nt = true)
 (h1 : SV.nms (ltB fr) args = true) (h2 : Go.Proofs.YtjgmbgfcffnanaaGreatDoor.hOk (ltB fr) H = true) (h3 : ∀ s H',o = some (s,H') → (SV.nm (pnB pn fr fr') s && Go.Proofs.YtjgmbgfcffnanaaGreatDoor.hOk (pnB pn fr fr') H' && pinOk args H H' pt) = true) (h4 : Go.Proofs.YtjgmbgfcffnanaaGreatDoor.hOk (pnB pp fr fr) Hp = true) (h5 : pn.all (ltB fr) = true) (h5' : pp.all (ltB fr) = true) (h6 : Nat.ble fr fr' = true) (h7 : pinOk args H Hp ptp = true) (h8 : pn = pt.map (·.1)) (h8' : pp = ptp.map (·.1))
 (h : ∀ (F : Fx) (vs : List Value),F.D = [] → vs.length = args.length → WP C F nt c (FnXQ C F nt fn args vs o pt ch Hp ptp) ⟨envS 0 args vs,H,fr⟩) : FnX C f fr args H o fr' pn ch Hp pp := by
 cases o with
 | some r =>
  obtain ⟨s,H'⟩ := r
  have h9 := h3 s H' rfl
  simp only [Bool.and_eq_true] at h9
  refine FnE.of_wp nt pt hf hb hname hnt hn h1 h2 h9.1.1 h9.1.2 h5 h6 h9.2 h8 fun F vs hD hl => (h F vs hD hl).weak fun e y hq => ?_
  cases e with
  | normal => obtain ⟨s',H2,e,hq⟩ := hq;cases e;exact hq
  | ret => obtain ⟨s',H2,e,hq⟩ := hq;cases e;exact hq
  | panic c' => cases hq.1
  | _ => exact hq.elim
 | none =>
  refine FnP.of_wp nt ptp hf hb hname hnt hn h1 h2 h4 h5' (by simp) h7 h8' fun F vs hD hl => (h F vs hD hl).weak fun e y hq => ?_
  cases e with
  | normal => obtain ⟨s',H2,e,hq⟩ := hq;cases e
  | ret => obtain ⟨s',H2,e,hq⟩ := hq;cases e
  | panic c' => exact hq.2
  | _ => exact hq.elim
theorem ready_after {ops ops2 : Array Oper} (hs : ops.size = ops2.size) (h : ∀ i : Nat,(ops[i]?).map Oper.after = (ops2[i]?).map Oper.after) (listed : Array Bool) : Region.ready .any ops listed = Region.ready .any ops2 listed := by
 unfold Region.ready
 rw [hs]
 congr 1
 funext i
 have h1 := h i
 cases e1 : ops[i]? with
 | none =>
  rw [e1] at h1
  cases e2 : ops2[i]? with
  | none => rfl
  | some o => rw [e2] at h1;cases h1
 | some o =>
  rw [e1] at h1
  cases e2 : ops2[i]? with
  | none => rw [e2] at h1;cases h1
  | some o2 =>
   rw [e2] at h1
   simp only [Option.map_some,Option.some.injEq] at h1
   simp only [Option.map_some,Option.getD_some,h1]
def fakeOp (u : Go.Operand) (o : Oper) : Oper := ⟨none,.move u,o.type,o.pos,o.after,none⟩
section
variable {C : Cfg} {F : Fx} {nt : Nat}
theorem drawP_any {l' : List Oper} {o : Oper} {v : Go.Operand} {ks : List Nat} {f : Nat → St} {sf : Nat → SV} {ob : Nat → HObj}
 (hst : ∀ i p,(l' ++ [fakeOp v o])[i]? = some p → StepAt C (l' ++ [fakeOp v o]).toArray nt (ks.getD i 0) p (f i) (sf i) (ob i) (f (i + 1))) (hok : regOk (l' ++ [fakeOp v o]) ks = true) (hkl : ks.length = (l' ++ [fakeOp v o]).length)
 (hgu : l'.all (fun o => o.guard.isNone) = true) (hg0 : o.guard = none)
 (hall : allIdx (fun j _ => Nat.testBit ((masks (l' ++ [fakeOp v o]) []).getD l'.length 0) j) 0 l' = true)
 {Q : Exit → Act → World → Prop} {n : Nat} (hq : ∀ μ ρ a w,Inv F nt (f (l'.length + 1)) μ ρ a w → ∀ K,o.wpIn F.fen n C.P a w K Q) :
 ∀ (fuel : Nat) (listed : Array Bool) (μ : Mem) (ρ : Nms) (H : List Ent) (a : Act) (w : World),listed.size = l'.length + 1 → listed[l'.length]? = some false → listed.toList.count false ≤ fuel → Jn C F nt (l' ++ [fakeOp v o]) ks f sf ob (Lst (l' ++ [fakeOp v o]).length listed) μ ρ H a w → wpAnyIn F.fen n C.P .any (l' ++ [o]).toArray Q fuel listed a w := by
 have hlen : (l' ++ [fakeOp v o]).length = l'.length + 1 := by simp
 have hrd : ∀ listed,Region.ready .any (l' ++ [o]).toArray listed = Region.ready .any (l' ++ [fakeOp v o]).toArray listed := ready_after (by simp) (fun i => by
  simp only [List.getElem?_toArray]
  rcases Nat.lt_trichotomy i l'.length with h | h | h
  ·rw [List.getElem?_append_left h,List.getElem?_append_left h]
  ·subst h;simp [fakeOp]
  ·rw [List.getElem?_eq_none (by simp;omega),List.getElem?_eq_none (by simp;omega)])
 have hno : ∀ (listed : Array Bool),listed.size = l'.length + 1 → listed[l'.length]? = some false → Region.ready .any (l' ++ [fakeOp v o]).toArray listed ≠ [] := fun listed hsz hl hr => by
  have := (not_ready (by rw [hsz,hlen]) hr (fun i o ho => (y2 hok ho).dep) l'.length (by omega)).2
  rw [Array.getD_eq_getD_getElem?,hl] at this
  simp at this
 intro fuel
 induction fuel with
 | zero =>
  intro listed μ ρ H a w hsz hm hc h
  exfalso
  have h1 : false ∈ listed.toList := by
   have := Array.mem_of_getElem? hm
   simpa using this
  have := List.count_pos_iff.2 h1
  omega
 | succ fuel ih =>
  intro listed μ ρ H a w hsz hm hc h
  refine ⟨fun hr => absurd (by rw [← hrd];exact hr) (hno listed hsz hm),fun i hi => ?_⟩
  rw [hrd] at hi
  obtain ⟨p,hp,hl,hdep⟩ := jV hi
  have hp' : (l' ++ [fakeOp v o])[i]? = some p := by simpa using hp
  have hlt : i < (l' ++ [fakeOp v o]).length := (List.getElem?_eq_some_iff.1 hp').1
  have hlf : listed[i]? = some false := by
   rw [Array.getD_eq_getD_getElem?,Array.getElem?_eq_getElem (by omega)] at hl
   rw [Array.getElem?_eq_getElem (by omega)]
   simpa using hl
  have hdep' : ∀ e ∈ p.after.toList,Region.binds .any e = true → Lst (l' ++ [fakeOp v o]).length listed e.on := fun e he hb => ⟨Nat.lt_trans ((y2 hok hp').dep e he hb) hlt,hdep e he hb⟩
  have hstep := h.step hst hok hkl hp' (fun hL => by
   have := hL.2
   rw [Array.getD_eq_getD_getElem?,hlf] at this
   simp at this) hdep'
  have hL : (fun j => Lst (l' ++ [fakeOp v o]).length listed j ∨ j = i) = Lst (l' ++ [fakeOp v o]).length (listed.setIfInBounds i true) := by
   funext j
   apply propext
   unfold Lst
   rw [Array.getD_eq_getD_getElem?,Array.getD_eq_getD_getElem?,Array.getElem?_setIfInBounds]
   by_cases e : i = j
   ·subst e
    rw [if_pos rfl,if_pos (by omega)]
    simp;omega
   ·rw [if_neg e]
    constructor
    ·rintro (h1 | h1)
     ·exact h1
     ·exact absurd h1.symm e
    ·exact .inl
  rcases Nat.lt_or_ge i l'.length with him | him
  ·rw [hL] at hstep
   have hcnt : (listed.setIfInBounds i true).toList.count false ≤ fuel := by
    rw [Array.toList_setIfInBounds]
    have h1 : i < listed.toList.length := by simpa using (by omega : i < listed.size)
    have h2 : listed.toList[i] = false := by
     have := Array.getElem?_eq_some_iff.1 hlf
     simpa using this.2
    have h3 := List.count_set (a := true) (b := false) (l := listed.toList) (i := i) h1
    rw [h2] at h3
    have h4 : listed.toList.count false ≤ fuel + 1 := hc
    have h5 := List.count_pos_iff.2 (h2 ▸ List.getElem_mem h1 : false ∈ listed.toList)
    have h6 : (listed.toList.set i true).count false = listed.toList.count false - 1 := by rw [h3];rfl
    omega
   have hm' : (listed.setIfInBounds i true)[l'.length]? = some false := by
    rw [Array.getElem?_setIfInBounds,if_neg (by omega)];exact hm
   have hp2 : (l' ++ [o]).toArray[i]? = some p := by
    rw [List.getElem?_append_left him] at hp'
    simp only [List.getElem?_toArray]
    rw [List.getElem?_append_left him];exact hp'
   have hgn : p.guard = none := by
    rw [List.getElem?_append_left him] at hp'
    have := List.all_eq_true.1 hgu p (List.mem_of_getElem? hp')
    simpa using this
   unfold wpOpIn
   rw [hp2]
   unfold Next1 at hstep
   dsimp only
   have hw : ∀ y,Region.wanted p y = true := fun y => by simp [Region.wanted,hgn]
   rw [if_pos (hw _)] at hstep
   rw [if_pos (hw _)]
   exact jG (fun a' w' ⟨_,_,_,h3⟩ => h3.defers.trans h.defers.symm) (fun a' w' ⟨μ',ρ',H',h2⟩ => ih _ μ' ρ' H' a' w' (by simpa using hsz) hm' hcnt h2) hstep
  ·obtain rfl : i = l'.length := by omega
   have hpe : p = fakeOp v o := by simpa using hp'.symm
   subst hpe
   unfold Next1 at hstep
   rw [if_pos (by simp [Region.wanted,fakeOp])] at hstep
   have hmask : ∀ b,Nat.testBit ((masks (l' ++ [fakeOp v o]) []).getD l'.length 0) b = true → Lst (l' ++ [fakeOp v o]).length listed b := by
    rw [(y2 hok hp').mask];exact jD h.clos hdep'
   have hLa : (fun j => Lst (l' ++ [fakeOp v o]).length listed j ∨ j = l'.length) = fun j => j < (l' ++ [fakeOp v o]).length := by
    funext j
    apply propext
    constructor
    ·rintro (h1 | h1)
     ·exact h1.1
     ·omega
    ·intro h1
     rcases Nat.lt_or_ge j l'.length with h2 | h2
     ·have h3 := yZ hall (List.getElem?_eq_getElem h2)
      rw [Nat.zero_add] at h3
      exact .inl (hmask j h3)
     ·exact .inr (by omega)
   rw [hLa] at hstep
   unfold Oper.wp at hstep
   have hrun : (execOp a.eval (fakeOp v o)).run C.P w = .ok (.value (a.eval v)) w := by
    simp only [execOp,fakeOp];rfl
   rw [hrun] at hstep
   obtain ⟨μ',ρ',H',hj⟩ := hstep
   have hi2 := hj.fin hst hok hkl
   rw [hlen] at hi2
   have ho2 : (l' ++ [o]).toArray[l'.length]? = some o := by simp
   unfold wpOpIn
   rw [ho2]
   dsimp only
   rw [if_pos (by simp [Region.wanted,hg0])]
   exact hq _ _ _ _ hi2 _
theorem WP.drawP {id : Nat} {l' : List Oper} {o : Oper} {v : Go.Operand} {ks : List Nat} {ss : List SV} {x y : St} {Q : Exit → St → Prop} {c : Chain} {H' : List Ent} {fr' : Nat} (h : AL C (l' ++ [fakeOp v o]).toArray nt ks (l' ++ [fakeOp v o]) x ss y) (hok : regOk (l' ++ [fakeOp v o]) ks = true) (hgu : l'.all (fun o => o.guard.isNone) = true)
 (hall : allIdx (fun j _ => Nat.testBit ((masks (l' ++ [fakeOp v o]) []).getD l'.length 0) j) 0 l' = true) (hp : OpP C o y.σ y.H y.fr c H' fr') (hq : Q (.panic c) ⟨y.σ,H',fr'⟩) : WP C F nt (.region id (l' ++ [o]).toArray true) Q x := by
 intro μ ρ a w hi
 obtain ⟨hkl,f,sf,ob,h0,h1,hst⟩ := h.at
 refine wpIn_region_any C.mixed ?_
 have hsz : (l' ++ [o]).toArray.size = l'.length + 1 := by simp
 refine drawP_any hst hok hkl hgu hp.2.1 hall (F := F) (fun μ' ρ' a' w' h2 K => ?_) _ _ μ ρ x.H a _ (by simp) (by rw [Array.getElem?_replicate,if_pos (by omega)]) (by simp) ?_
 ·rw [show l'.length + 1 = (l' ++ [fakeOp v o]).length by simp,h1] at h2
  refine hp.2.2 ρ' μ' a' w' (h2.env.look o) h2.agr h2.heap (fun i k1 k2 => ?_) _ _ fun a3 w3 μ3 ρ3 e1 e2 k1 k2 k3 k4 => ?_
  ·cases e : ρ' i with
   | none => rfl
   | some u => have := h2.nms i (by rw [e];simp);omega
  ·have h3 := h2.estp hp.1 k1 k2 k3 k4
   exact ⟨_,μ3,ρ3,hq,⟨by rw [e1];exact h3.size,by rw [e2];exact h3.defers,by rw [e1];exact h3.env,h3.agr,h3.heap,h3.nms,h3.os,h3.tape,h3.output,h3.hsize,h3.block,h3.le,h3.new,h3.own⟩⟩
 ·have hno : ∀ i,¬ Lst (l' ++ [fakeOp v o]).length (Array.replicate (l' ++ [o]).toArray.size false) i := by
   rintro i ⟨h2,h3⟩
   rw [Array.getD_eq_getD_getElem?,Array.getElem?_replicate] at h3
   split at h3 <;> simp at h3
  refine ⟨hi.size,hi.defers,fun i o d hL => (hno i hL).elim,?_,hi.agr,hi.heap,.inr ⟨fun i hL => (hno i hL).elim,fun e => ?_⟩,?_,fun i hL => (hno i hL).elim,fun i hL => (hno i hL).elim,hi.os,hi.tape,hi.output,hi.hsize,hi.block,hi.le,hi.new,hi.own⟩
  ·intro d s _ hs
   rw [h0] at hs
   exact hi.env d s hs
  ·rw [h0]
   exact ⟨.inl,fun h => h.elim (fun h => h) fun ⟨j,hj,_⟩ => (hno j hj).elim⟩
  ·intro i h2
   rw [h0]
   exact .inl (hi.nms i h2)
end
section
variable {C : Cfg} {F : Fx} {nt : Nat} {ops : Array Oper} {l : List Oper} {Q : Exit → St → Prop} {σ : Env} {H H' : List Ent} {fr fr' : Nat} {d : Option Tmp} {op : Op} {ty : TypeId} {pos : String} {after : Array Edge} {s : SV}
theorem LX.n (h : OpN C ⟨d,op,ty,pos,after,none⟩ σ s) (hd : dokD nt d = true) (t : LX C F nt ops l Q ⟨bnd d s σ,H,fr⟩) : LX C F nt ops (⟨d,op,ty,pos,after,none⟩ :: l) Q ⟨σ,H,fr⟩ := .step (.n (.inl rfl) hd h) t
theorem LX.p {c : Chain} {o : Oper} (h : OpP C o σ H fr c H' fr') (hq : Q (.panic c) ⟨σ,H',fr'⟩) : LX C F nt ops (o :: l) Q ⟨σ,H,fr⟩ := .pan h hq
theorem ALK.nilP {l0 : List Oper} {m : Nat} {x : St} {dn : List Nat} {K : St → Prop} (hr : regOk l0 dn.reverse = true) (ha : allIdx (fun j _ => Nat.testBit ((masks l0 []).getD m 0) j) 0 (l0.take m) = true) (h : K x) : ALK C ops nt dn [] x (fun ks y => regOk l0 ks = true ∧ allIdx (fun j _ => Nat.testBit ((masks l0 []).getD m 0) j) 0 (l0.take m) = true ∧ K y) := ⟨[],[],x,.nil,by simpa using hr,ha,h⟩
theorem WP.xdraw {id : Nat} {x : St} {l : List Oper} (m : Nat) (o : Oper) (v : Go.Operand) (hl : l = l.take m ++ [o]) (hgu : (l.take m).all (fun o => o.guard.isNone) = true)
 (h : ALK C (l.take m ++ [fakeOp v o]).toArray nt [] (l.take m ++ [fakeOp v o]) x (fun ks y => regOk (l.take m ++ [fakeOp v o]) ks = true ∧ allIdx (fun j _ => Nat.testBit ((masks (l.take m ++ [fakeOp v o]) []).getD m 0) j) 0 ((l.take m ++ [fakeOp v o]).take m) = true ∧ ∃ c H' fr',OpP C o y.σ y.H y.fr c H' fr' ∧ Q (.panic c) ⟨y.σ,H',fr'⟩)) : WP C F nt (.region id l.toArray true) Q x := by
 obtain ⟨ks,ss,y,h1,h2,h3,c,H',fr',h4,h5⟩ := h
 have hm : (l.take m).length = m := by
  have := congrArg List.length hl
  simp at this ⊢
  omega
 rw [hl]
 refine WP.drawP (v := v) h1 (by simpa using h2) hgu ?_ h4 h5
 rw [List.take_left' hm] at h3
 rw [hm];exact h3
theorem opn_mkIface {xt : TypeId} {x : Go.Operand} {u : Value} (hc : C.P.concrete xt = true) (hx : Ev σ x (.im (IV.val u))) {gu : Option (Nat × Bool)} : OpN C ⟨d,.makeInterface xt x,ty,pos,after,gu⟩ σ (.im (IV.val (.iface xt u))) := OpN.pure fun ρ μ a w hl ha => by
 have h1 := hx.val hl (by simp [Op.operands])
 refine ⟨_,?_,oi.2 rfl⟩
 simp only [execOp,h1,Sem.run_bind,run_makeInterface w xt u hc,Result.andThen_ok,Sem.run_pure]
end
section
variable {C : Cfg} {F : Fx} {nt : Nat} {σ : Env} {H : List Ent} {fr : Nat}
theorem Shift.frzPp (d : Nat) {i t : Nat} {cs : List SV} (h : lk σ d = some (.off i 0)) (hh : hget H i = some (.blk t cs)) : Shift F nt ⟨σ,H,fr⟩ ⟨(d,.pp cs) :: σ,hdel H i,fr⟩ := fun μ ρ a w hi => by
 have h1 := hi.env d _ h
 unfold SV.R at h1
 obtain ⟨g,h2,h3⟩ := h1
 have hm := om hh
 obtain ⟨g',us,h4,h5,h6,h7,h8⟩ := hi.heap.1 _ hm
 rw [h4] at h2
 simp only [Option.bind_some,blk,Option.some.injEq] at h2
 subst h2
 obtain ⟨h9,h10⟩ := hi.addMem (g := g') hm (yh (by rw [h4];rfl)) h5
 refine ⟨_,ρ,h9.slot (s := .pp cs) ?_⟩
 unfold SV.R
 exact ⟨g',0,us.toList,h3,by unfold Mem.add;rw [if_pos rfl],h6.mono (Nms.le.refl _) h10,h8⟩
end
theorem nms_ims {p : Nat → Bool} : ∀ (l : List IV),SV.nms p (l.map SV.im) = true
 | [] => rfl
 | s :: l => by simp only [List.map_cons,SV.nms,SV.nm,nms_ims l];rfl
theorem nms_offs {p : Nat → Bool} {i : Nat} (h : p i = true) : ∀ (os : List Nat),SV.nms p (os.map (SV.off i)) = true
 | [] => rfl
 | s :: l => by simp only [List.map_cons,SV.nms,SV.nm,h,nms_offs h l];rfl
theorem rns_ims {f : Nat → Nat} : ∀ (l : List IV),SV.rns f (l.map SV.im) = l.map SV.im
 | [] => rfl
 | s :: l => by simp only [List.map_cons,SV.rns,SV.rn,rns_ims l]
theorem pinWs_offs {i : Nat} : ∀ {os : List Nat},os ≠ [] → SV.pinWs i (os.map (SV.off i)) = true
 | [],h => absurd rfl h
 | s :: l,_ => by simp only [List.map_cons,SV.pinWs,SV.pinW];simp
theorem SLes.ims {rn : List (Nat × Nat)} : ∀ (l : List IV),SLes rn (l.map SV.im) (l.map SV.im)
 | [] => .nil
 | _ :: l => .cons (.im ILe.refl) (SLes.ims l)
theorem SLes.imsEq {rn : List (Nat × Nat)} {cs : List SV} {l : List IV} (h : cs = l.map SV.im) : SLes rn cs (l.map SV.im) := by rw [h];exact SLes.ims l
theorem SLes.offs {rn : List (Nat × Nat)} {i j : Nat} (h : rlk rn j = some i) : ∀ (os : List Nat),SLes rn (os.map (SV.off i)) (os.map (SV.off j))
 | [] => .nil
 | _ :: l => .cons (.off h rfl) (SLes.offs h l)
theorem ovr_ims (l : List IV) (o : Nat) (s : IV) : ovr (l.map SV.im) o [SV.im s] = (l.set o s).map SV.im := by
 show (l.map SV.im).set o (SV.im s) = _
 rw [List.map_set]
end Go.Proofs.YtjgmbgfcffnanaaGreatDoor
