/- Package desk: the law that Play answers as the document says. The desk, without the program: steps by hand, then rested, then audited: it stands. No condition. The law DeskSound, walked. From a contract ('the law returns true, and nothing that was there has turned') to the row. No condition. -/
import Derived.ProofKit
import Derived.Lib.SmallJoins
import Derived.Deep.Slices
import Derived.Deep.Fields
import Derived.Test.YtjgmbgfcffnanabGreatDoorZ32
set_option maxRecDepth 100000
set_option maxHeartbeats 4000000
namespace Go.Proofs.YtjgmbgfcffnanabGreatDoor
open Go.RowKit
def FnGh (M : Mem) (C : Cfg) (f : FuncId) (args : List IV) (s : IV) : Prop :=
 (∃ fn,C.P.funcs[f]? = some fn ∧ fn.body.isNone = false ∧ (fn.name == "runtime.NumGoroutine") = false) ∧
 ∀ μ w vs,IVs μ args vs → Agr μ w → Mem.le M μ → Calls C.P f vs.toArray w fun e w' => ∃ v μ',e = .returned v ∧ s.p μ' v ∧ Stp μ w μ' w'
section
variable {C : Cfg} {σ : Env} {d : Option Tmp} {ty : TypeId} {pos : String} {after : Array Edge} {gu : Option (Nat × Bool)}
theorem opn_callGh {M : Mem} {f : FuncId} {xs : List Go.Operand} {tys : Array TypeId} {args : List IV} {s : IV} (hg : lk σ ghT = some (.im (IV.gh M))) (hf : FnGh M C f args s) (hx : Evs σ xs args) : OpN C ⟨d,.call { callee := .value (.func f),args := xs.toArray,argTypes := tys },ty,pos,after,gu⟩ σ (.im s) := fun ρ μ a w hl ha => by
 obtain ⟨⟨fn,h1,h2,h3⟩,h4⟩ := hf
 have h5 := hx.at hl (fun x hx => by simp [Op.operands,Call.operands,hx])
 have h6 : (execOp a.eval ⟨d,.call { callee := .value (.func f),args := xs.toArray,argTypes := tys },ty,pos,after,gu⟩).run C.P w = .ok (.enter f (xs.map a.eval).toArray) w := by
  simp [execOp,resolve,Act.eval,Deferred.ofValue,invoke,run_callFunc h1 h2 h3]
 unfold Oper.wp
 rw [h6]
 have hM := R_im.1 (hl ghT List.mem_cons_self _ hg)
 refine Calls.mono (h4 μ w _ h5 ha hM) ?_
 rintro e w' ⟨v,μ',rfl,h7,h8⟩
 exact ⟨v,μ',rfl,R_im.2 h7,h8⟩
end
theorem FnGh.of_wp {M : Mem} {C : Cfg} {f : FuncId} {fn : Func} {c : Code} {args : List IV} {s : IV} (nt : Nat) (hf : C.P.funcs[f]? = some fn) (hb : fn.body = some c) (hname : (fn.name == "runtime.NumGoroutine") = false) (hnt : fn.ntmps = nt) (hn : Nat.ble args.length nt = true) (_ : Nat.ble nt ghT = true)
 (h : ∀ F : Fx,F.D = [] → (∀ g,¬ F.G g) → WP C F nt c (FnQ C F nt fn s) ⟨(ghT,.im (IV.gh M)) :: env0 0 args,[],0⟩) : FnGh M C f args s := by
 refine ⟨⟨fn,hf,by rw [hb];rfl,hname⟩,fun μ w vs hvs ha hM => ?_⟩
 have hlen := hvs.length
 refine calls_of_wp hf hb ((wpIn_wide (n := 9)).1 ?_)
 have hle := Nat.le_of_ble_eq_true hn
 have hi0 : Inv ⟨w,μ,fun _ => False,[],none⟩ nt ⟨env0 0 args,[],0⟩ μ (fun _ => none) { tmps := vs.toArray ++ Array.replicate (fn.ntmps - vs.toArray.size) undef,defers := [] } w := by
  refine ⟨by simp;omega,rfl,fun t s hs => ?_,ha,⟨(fun e he => by cases he),(fun e he => by cases he)⟩,fun i hi => absurd rfl hi,rfl,rfl,rfl,Nat.le_refl _,fun _ _ _ => rfl,Mem.le.refl _,fun b hb => .inl hb,(fun e he => by cases he)⟩
  obtain ⟨j,s',h1,h2,rfl⟩ := env0_at hs
  rw [Nat.zero_add] at h1
  subst h1
  obtain ⟨v,h3,h4⟩ := hvs.get h2
  have hj : t < vs.length := (List.getElem?_eq_some_iff.1 h3).1
  refine R_im.2 ?_
  have : (vs.toArray ++ Array.replicate (fn.ntmps - vs.toArray.size) undef).getD t undef = v := by
   rw [Array.getD_eq_getD_getElem?,Array.getElem?_append_left (by simpa using hj)]
   simp [h3]
  rw [this];exact h4
 have hi := hi0.slot (d := ghT) (s := .im (IV.gh M)) (R_im.2 hM)
 refine wpIn_mono (h ⟨w,μ,fun _ => False,[],none⟩ rfl (fun _ h => h) μ _ _ w hi) ?_
 rintro e a' w' ⟨y,μ',ρ',hq,hy⟩
 have key : RetOk C ⟨w,μ,fun _ => False,[],none⟩ nt fn s y → a'.defers = [] ∧ ∃ v,(results fn a'.tmps).run C.P w' = .ok v w' ∧ ∃ v_1 μ',Ending.returned v = .returned v_1 ∧ s.p μ' v_1 ∧ Stp μ w μ' w' := fun hr => by
  obtain ⟨v,ν,h1,h2,h3,h4,h5⟩ := hr μ' ρ' a' w' hy
  exact ⟨hy.defers,v,h1,v,ν,rfl,h2,⟨⟨hy.os,hy.tape,hy.output,hy.hsize,fun k hk => hy.block k hk (fun h => h)⟩,h3,fun b hb => (h4 b hb).imp id (fun hx => hx.elim id (fun hf => hf.elim)),h5⟩⟩
 cases e with
 | normal => exact key hq
 | ret => exact key hq
 | _ => exact hq.elim
theorem deskBegun_g {M : Mem} (hM : GlobM M) : FnGh M CC 5 [] (IV.bool true) := by
 have hw : writeS threeP = bPlan threeP := by unfold writeS;rw [if_pos three0]
 have hP := Play_fn hM (bPlan threeP) begT (by decide)
 rw [beg_S,beg_E] at hP
 refine FnGh.of_wp _ Tryz.func5 rfl (by kernel_rfl) Tryz.ntmps5 rfl rfl ?_
 intro F hD hG
 show WP _ _ _ _ _ ⟨[(ghT,.im (IV.gh M))],[],0⟩
 (refine zR ?_;refine sA ?_;refine zN ?_)
 (refine zR ?_;refine ALK.n (opn_call three_fn Evs.nil) rfl ?_;refine ALK.n (opn_call (wire_Write_fn threeP threeB) (Evs.cons Ev.a Evs.nil)) rfl ?_;(iterate 5 refine sA ?_);refine zN ?_)
 rw [hw,three0]
 (refine zR ?_;refine sA ?_;refine ALK.n (opn_call hP (Evs.cons (eB rfl) (Evs.cons (Ev.wth (eB rfl) rfl) Evs.nil))) rfl ?_;(iterate 5 refine sA ?_);refine zN ?_)
 (refine zR ?_;(iterate 3 refine sA ?_);refine ALK.ny (opn_move (eB rfl)) rfl rfl (by first | rfl | assumption | (simp [gd];done) | (simp_all [gd];done)) rfl ?_;(first | refine ALK.ny (opn_cmp (eB rfl) (eB rfl) rfl) rfl rfl (by first | rfl | assumption | (simp [gd];done) | (simp_all [gd];done)) rfl ?_ | refine ALK.ny (opn_cmpB rfl (eB rfl) (eB rfl) rfl) rfl rfl (by first | rfl | assumption | (simp [gd];done) | (simp_all [gd];done)) rfl ?_);refine ALK.n (opn_pick_andP (eB rfl) (eB rfl) (eB rfl)) rfl ?_;refine sA ?_;refine ALK.ny (opn_move (eB rfl)) rfl rfl (by first | rfl | assumption | (simp [gd];done) | (simp_all [gd];done)) rfl ?_;refine ALK.ny (opn_cmpS (a := begS') (b := begS') (c := true) (eB rfl) (eB rfl) (by simp [cmpS])) rfl rfl (by first | rfl | assumption | (simp [gd];done) | (simp_all [gd];done)) rfl ?_;refine ALK.n (opn_pick_andP (eB rfl) (eB rfl) (eB rfl)) rfl ?_;refine sA ?_;refine zN ?_)
 (repeat apply WP.seq)
 refine WP.ret ?_
 refine RetOk.one Tryz.results5 (ResV.tmp rfl (ImOf.im (ILe.bool ?_)))
 simp
def sndT0 : List UInt8 := [112,117,116,32,48,32,53,10,112,117,116,32,49,32,57,10]
def sndE : List UInt8 := [114,101,115,116,10,97,117,100,105,116,10]
def sndOp (x : StepT) : List UInt8 := if x.kind = 2 then [119,114,105,116,101,32] else [114,101,97,100,32]
def sndF (t : List UInt8) (x : StepT) : List UInt8 := t ++ sndOp x ++ digs (chooseN x.txn 8) ++ [32] ++ digs (chooseN x.shard 4) ++ [10]
def sndT (l : List StepT) : List UInt8 := l.foldl sndF sndT0
theorem sndT_snoc (l : List StepT) (x : StepT) : sndT (l ++ [x]) = sndF (sndT l) x := by
 unfold sndT
 rw [List.foldl_append]
 rfl
theorem choose_in {n m : Int} (hm : 0 < m) : 0 ≤ chooseN n m ∧ chooseN n m < m := by
 unfold chooseN
 have h8 : 0 ≤ (if n < 0 then -(n + 1) else n) := by split <;> omega
 rw [Int.tmod_eq_emod_of_nonneg h8]
 exact ⟨Int.emod_nonneg _ (by omega),Int.emod_lt_of_pos _ hm⟩
theorem digs_one {n m : Int} (hm : 0 < m) (h10 : m ≤ 10) : ∃ b,digs (chooseN n m) = [b] ∧ b ≠ 10 := by
 obtain ⟨h0,h1⟩ := choose_in (n := n) hm
 have e := digs_small h0 (by omega : chooseN n m < 10)
 refine ⟨_,e,?_⟩
 obtain ⟨k,hk⟩ := Int.eq_ofNat_of_zero_le h0
 rw [hk]
 have h9 : k < 10 := by omega
 have : k = 0 ∨ k = 1 ∨ k = 2 ∨ k = 3 ∨ k = 4 ∨ k = 5 ∨ k = 6 ∨ k = 7 ∨ k = 8 ∨ k = 9 := by omega
 rcases this with rfl | rfl | rfl | rfl | rfl | rfl | rfl | rfl | rfl | rfl <;> decide +kernel
theorem sndF_is (t : List UInt8) (x : StepT) : (sndF t x).length ≤ t.length + 10 ∧ cntS (sndF t x) = cntS t + 1 ∧ NL (sndF t x) := by
 obtain ⟨a,ha,ha'⟩ := digs_one (n := x.txn) (m := 8) (by omega) (by omega)
 obtain ⟨b,hb,hb'⟩ := digs_one (n := x.shard) (m := 4) (by omega) (by omega)
 have ho : (sndOp x).length ≤ 6 ∧ (sndOp x).count 10 = 0 := by
  unfold sndOp
  split <;> exact ⟨by decide,by decide⟩
 unfold sndF cntS
 rw [ha,hb]
 refine ⟨?_,?_,.inr ?_⟩
 ·simp only [List.length_append,List.length_cons,List.length_nil];omega
 ·simp only [List.count_append,List.count_cons,List.count_nil,ho.2]
  simp [ha',hb']
 ·rw [List.getLast?_append];rfl
theorem sndF_all : ∀ (l : List StepT) (t : List UInt8),NL t → (l.foldl sndF t).length ≤ t.length + 10 * l.length ∧ cntS (l.foldl sndF t) = cntS t + l.length ∧ NL (l.foldl sndF t)
 | [],_,h => ⟨Nat.le_refl _,rfl,h⟩
 | x :: l,t,_ => by
  obtain ⟨h1,h2,h3⟩ := sndF_is t x
  obtain ⟨h4,h5,h6⟩ := sndF_all l (sndF t x) h3
  rw [List.foldl_cons,List.length_cons]
  exact ⟨by omega,by omega,h6⟩
theorem sndT_is (l : List StepT) : (sndT l).length ≤ 16 + 10 * l.length ∧ cntS (sndT l) = 2 + l.length ∧ NL (sndT l) :=
 sndF_all l sndT0 (.inr (by decide))
theorem aud_same {s : List Int} {l : List Txn} (h8 : s.length = 8) (hc : checkTxns l = 0) : audN s l (serS s l) (serR s l) = -1 := by
 have hE : audE s l (serS s l) (serR s l) = 0 := by
  unfold audE serE
  rw [if_pos h8,hc,if_pos rfl,if_pos ⟨by rw [serS_len];exact h8,serR_len _ _⟩]
 unfold audN
 rw [if_pos hE,diffAt_self]
 exact if_pos rfl
theorem audit_over {p : Plan} {d : Dk} (g : Good p d) (ho : overB p d.s = true) : lineS p d sAudit = (digs (-1),d) := by
 obtain ⟨e1,e2,_⟩ := g.r.over ho
 have hE : resE p d.s = 0 := by unfold resE;rw [if_pos (valid_iff.2 g.v),if_pos ho]
 have hR : resR p d.s = serR d.first p.txns := by unfold resR;rw [if_pos hE];exact e2
 have hN : auditN p d = -1 := by
  unfold auditN
  rw [e1,hR]
  exact aud_same g.r.b0 (checkPlan_zero g.v.plan).2.2
 show (if resE p d.s = 0 then digs (auditN p d) else _,d) = _
 rw [if_pos hE,hN]
theorem snd_run {p : Plan} (hc : checkPlan p = 0) (hi : PlanI p) (t : List UInt8) (hn : NL t) : ∃ u,(runQ p (linesS (t ++ sndE)) ([],dk0 p)).1 = u ++ [10,45,49,10] := by
 obtain ⟨g,_⟩ := runQ_good hi (ls := linesS t) (q := ([],dk0 p)) (Good.zero hc)
 have hl : linesS sndE = [sRest,sAudit] := by decide +kernel
 rw [linesS_app hn,runQ_app,hl]
 obtain ⟨q,hq⟩ : ∃ q,q = runQ p (linesS t) ([],dk0 p) := ⟨_,rfl⟩
 rw [← hq] at g ⊢
 obtain ⟨g2,ho,_⟩ := g.rest hi
 have h1 : lineS p q.2 sRest = (digs (restN p q.2),restD p q.2) := rfl
 have h2 := audit_over g2 ho
 show ∃ u,(stp p (stp p q sRest) sAudit).1 = _
 unfold stp
 rw [h1]
 simp only
 rw [h2]
 refine ⟨q.1 ++ digs (restN p q.2),?_⟩
 have h3 : digs (-1) = [45,49] := by decide +kernel
 rw [h3]
 simp only [List.append_assoc,List.cons_append,List.nil_append]
theorem snd_script {p : Plan} (hc : checkPlan p = 0) (hi : PlanI p) {l : List StepT} (hl : l.length ≤ 30) : scriptE (bPlan p) (sndT l ++ sndE) = 0 ∧ ∃ u,scriptS (bPlan p) (sndT l ++ sndE) = u ++ [10,45,49,10] := by
 obtain ⟨h1,h2,h3⟩ := sndT_is l
 have hr := read_write hc hi
 have h0 : scriptE (bPlan p) (sndT l ++ sndE) = 0 := by
  have hc' : cntS (sndT l ++ sndE) = cntS (sndT l) + 2 := by
   unfold cntS
   rw [List.count_append]
   rfl
  have hlen : (sndT l ++ sndE).length = (sndT l).length + 11 := by rw [List.length_append];rfl
  unfold scriptE
  rw [hr,if_pos rfl,if_neg (by omega),if_neg (fun h => h.2 (by rw [List.getLast?_append];rfl))]
 refine ⟨h0,?_⟩
 unfold scriptS
 rw [h0,if_pos rfl,hr]
 exact snd_run hc hi _ h3
theorem snd_len {p : Plan} (hc : checkPlan p = 0) (hi : PlanI p) {l : List StepT} (hl : l.length ≤ 30) {u : List UInt8} (h : scriptS (bPlan p) (sndT l ++ sndE) = u ++ [10,45,49,10]) : u.length ≤ 1000000 := by
 obtain ⟨h1,_,_⟩ := sndT_is l
 have hr := read_write hc hi
 have h0 := (snd_script hc hi hl).1
 unfold scriptS at h
 rw [h0,if_pos rfl,hr] at h
 obtain ⟨_,h2⟩ := runQ_good hi (ls := linesS (sndT l ++ sndE)) (q := ([],dk0 p)) (Good.zero hc)
 have h3 := linesS_len (sndT l ++ sndE)
 rw [List.length_append] at h3
 have h4 : sndE.length = 11 := rfl
 have h5 : (runQ p (linesS (sndT l ++ sndE)) ([],dk0 p)).1.length = (u ++ [10,45,49,10]).length := congrArg List.length h
 have h7 : (u ++ [10,45,49,10]).length = u.length + 4 := by rw [List.length_append];rfl
 have h6 : 901 * (linesS (sndT l ++ sndE)).length ≤ 901 * 400 := Nat.mul_le_mul_left _ (by omega)
 simp only [List.length_nil] at h2
 omega
theorem DeskSound_fn {M : Mem} (hM : GlobM M) (p : Plan) (l : List StepT) (hB : TxsB p.txns) (hI : PlanI p) (hl : ∀ x ∈ l,I64 x.txn ∧ I64 x.shard) : Fn CC 3 [planV p,IV.wth M (stpsV l)] (IV.bool true) := by
 refine Fn.of_wp _ Tryz.func3 rfl (by kernel_rfl) Tryz.ntmps3 rfl ?_
 intro F hD hG
 show WP _ _ _ _ _ ⟨[(0,.im (planV p)),(1,.im (IV.wth M (stpsV l)))],[],0⟩
 refine WP.shift (Shift.gh 1 rfl (by decide)) ?_
 (refine zR ?_;(iterate 2 refine sA ?_);refine zN ?_)
 (refine zR ?_;refine sA ?_;refine ALK.n (opn_call (wire_Write_fn p hB) (Evs.cons Ev.a Evs.nil)) rfl ?_;(iterate 5 refine sA ?_);refine zN ?_)
 (refine zR ?_;(iterate 3 refine sA ?_);refine gA ?_;refine ALK.g (fun hb => opn_lenStr rfl (eC rfl hb)) rfl rfl rfl ?_;refine gA ?_;refine sA ?_;refine zN ?_)
 refine zC (fun h => ?_) (fun h => ?_)
 ·(refine zR ?_;refine ALK.n (opn_callGh rfl (deskBegun_g hM) Evs.nil) rfl ?_;refine sA ?_;refine zN ?_)
  exact zT Tryz.results3
 refine zS ?_
 have hh : checkPlan p = 0 ∧ (writeS p).length ≤ 4096 := by
  simp at h
  exact ⟨h.1,by omega⟩
 obtain ⟨h0,hlen⟩ := hh
 have hw : writeS p = bPlan p := by unfold writeS;rw [if_pos h0]
 rw [hw] at hlen ⊢
 clear h
 (refine zR ?_;refine sA ?_;refine zN ?_)
 (refine zR ?_;refine sA ?_;refine zN ?_)
 refine zB ?_
 refine WP.loop (fun k : Nat => ⟨[(8,.im (IV.int k)),(7,.im (IV.str (sndT (l.take k)))),(1,.im (stpsV l)),(5,.im (IV.str (bPlan p))),(ghT,.im (IV.gh M))],[],0⟩) (fun k => k ≤ l.length ∧ k ≤ 30) (fun k => l.length - k) 0 ⟨Nat.zero_le _,by omega⟩ (Shift.sub [] rfl (SubE.cons rfl SLe.a (SubE.cons rfl (SLe.im (ILe.eq rfl)) SubE.a)) SubH.nil) ?_
 rintro k ⟨hk,hk30⟩
 have hT : (sndT (l.take k)).length ≤ 316 := by
  have := (sndT_is (l.take k)).1
  rw [List.length_take] at this
  omega
 (refine zR ?_;(iterate 5 refine sA ?_);(iterate 2 refine gA ?_);refine sA ?_;refine zN ?_)
 refine zC (fun h => ?_) (fun h => ?_)
 ·refine zS ?_
  have hlt : k < l.length ∧ k < 30 := by simp at h;omega
  obtain ⟨x,hx⟩ := get_at hlt.1
  obtain ⟨i1,i2⟩ := hl x (List.mem_of_getElem? hx)
  obtain ⟨a0,a1⟩ := choose_in (n := x.txn) (m := 8) (by omega)
  obtain ⟨b0,b1⟩ := choose_in (n := x.shard) (m := 4) (by omega)
  have i3 : I64 (chooseN x.txn 8) := by unfold I64;omega
  have i4 : I64 (chooseN x.shard 4) := by unfold I64;omega
  have d1 := digs_len i3
  have d2 := digs_len i4
  have ho : (sndOp x).length ≤ 6 := by unfold sndOp;split <;> decide
  have hn : sndT (l.take (k + 1)) = sndF (sndT (l.take k)) x := by rw [snoc_take hx,sndT_snoc]
  have hlt1 := hlt.1
  clear h
  refine zB ?_
  (refine zR ?_;refine sA ?_;refine zN ?_)
  (refine zR ?_;(iterate 3 refine sA ?_);refine fd 0 ?_;(iterate 2 refine sA ?_);refine zN ?_)
  ((repeat apply WP.seq);refine WP.qshift (⟨[(9,.im (IV.str (sndOp x))),(8,.im (IV.int k)),(7,.im (IV.str (sndT (l.take k)))),(1,.im (stpsV l)),(5,.im (IV.str (bPlan p))),(ghT,.im (IV.gh M))],[],0⟩) (WP.cond rfl (fun h => ?_) (fun h => ?_)) ?_)
  ·have h0 : x.kind = 2 := by simpa using h
   (refine zR ?_;refine sA ?_;refine zN ?_)
   show Shift _ _ _ _
   exact Shift.sub [] rfl (SubE.cons rfl (SLe.im (ILe.eq (by unfold sndOp;rw [if_pos h0];rfl))) SubE.a) SubH.nil
  ·have h0 : ¬ x.kind = 2 := by simpa using h
   refine WP.skip ?_;show Shift _ _ _ _
   exact Shift.sub [] rfl (SubE.cons rfl (SLe.im (ILe.eq (by unfold sndOp;rw [if_neg h0];rfl))) SubE.a) SubH.nil
  (refine zW ?_;(iterate 2 refine sA ?_);refine ALK.n (opn_addStr (eB rfl) (eB rfl) (by omega)) rfl ?_;(iterate 3 refine sA ?_);refine fd 1 ?_;refine sA ?_;refine ALK.n (opn_call (choose_fn x.txn 8 i1 (by omega)) (Evs.cons Ev.a (Evs.cons Ev.a Evs.nil))) rfl ?_;refine ALK.n (opn_call (ref_Digits_fn _ i3) (Evs.cons Ev.a Evs.nil)) rfl ?_;refine ALK.n (opn_addStr (eB rfl) (eB rfl) (by simp;omega)) rfl ?_;refine ALK.n (opn_addStr (b := [32]) (eB rfl) (eB rfl) (by simp;omega)) rfl ?_;(iterate 3 refine sA ?_);refine fd 2 ?_;refine sA ?_;refine ALK.n (opn_call (choose_fn x.shard 4 i2 (by omega)) (Evs.cons Ev.a (Evs.cons Ev.a Evs.nil))) rfl ?_;refine ALK.n (opn_call (ref_Digits_fn _ i4) (Evs.cons Ev.a Evs.nil)) rfl ?_;refine ALK.n (opn_addStr (eB rfl) (eB rfl) (by simp;omega)) rfl ?_;refine ALK.n (opn_addStr (b := [10]) (eB rfl) (eB rfl) (by simp;omega)) rfl ?_;refine sA ?_;refine zD ?_)
  (refine zR ?_;(iterate 3 refine sA ?_);refine zN ?_)
  show ∃ _,_ ∧ _ ∧ _
  exact ⟨k + 1,⟨by omega,by omega⟩,by omega,Shift.sub [] rfl (SubE.cons rfl SLe.a (SubE.cons rfl (SLe.im (ILe.eq (by rw [hn];rfl))) SubE.a)) SubH.nil⟩
 ·refine zE ?_
  have hle : (l.take k).length ≤ 30 := by rw [List.length_take];omega
  obtain ⟨e0,u,eS⟩ := snd_script h0 hI hle
  have hP := Play_fn hM (bPlan p) (sndT (l.take k) ++ sndE) (by rw [List.length_append];show _ + 11 ≤ _;omega)
  rw [e0,eS] at hP
  have hu : u.length ≤ 1000000 := snd_len h0 hI hle eS
  have hd : (u ++ [10,45,49,10]).drop u.length = [10,45,49,10] := by rw [List.drop_left]
  have hlu : (u ++ [10,45,49,10]).length = u.length + 4 := by rw [List.length_append];rfl
  clear h
  (refine zR ?_;(iterate 2 refine sA ?_);refine ALK.n (opn_addStr (b := sndE) (eB rfl) (eB rfl) (by show _ + 11 ≤ _;omega)) rfl ?_;refine ALK.n (opn_call hP (Evs.cons (eB rfl) (Evs.cons (Ev.wth (eB rfl) rfl) Evs.nil))) rfl ?_;(iterate 5 refine sA ?_);refine zN ?_)
  generalize hv : u ++ [10,45,49,10] = v at hd hlu
  have hge : decide ((v.length : Int) ≥ 4) = true := by rw [decide_eq_true_eq];omega
  (refine zR ?_;refine ALK.n (opn_callGh rfl (deskBegun_g hM) Evs.nil) rfl ?_;refine sA ?_;refine ALK.ny (opn_move (eB rfl)) rfl rfl (by first | rfl | assumption | (simp [gd];done) | (simp_all [gd];done)) rfl ?_;(first | refine ALK.ny (opn_cmp (eB rfl) (eB rfl) rfl) rfl rfl (by first | rfl | assumption | (simp [gd];done) | (simp_all [gd];done)) rfl ?_ | refine ALK.ny (opn_cmpB rfl (eB rfl) (eB rfl) rfl) rfl rfl (by first | rfl | assumption | (simp [gd];done) | (simp_all [gd];done)) rfl ?_);refine ALK.n (opn_pick_andP (eB rfl) (eB rfl) (eB rfl)) rfl ?_;refine sA ?_;refine ALK.ny (opn_move (eB rfl)) rfl rfl (by first | rfl | assumption | (simp [gd];done) | (simp_all [gd];done)) rfl ?_;refine ALK.ny (opn_lenStr rfl (eB rfl)) rfl rfl (by first | rfl | assumption | (simp [gd];done) | (simp_all [gd];done)) rfl ?_;(first | refine ALK.ny (opn_cmp (eB rfl) (eB rfl) rfl) rfl rfl (by first | rfl | assumption | (simp [gd];done) | (simp_all [gd];done)) rfl ?_ | refine ALK.ny (opn_cmpB rfl (eB rfl) (eB rfl) rfl) rfl rfl (by first | rfl | assumption | (simp [gd];done) | (simp_all [gd];done)) rfl ?_);refine ALK.n (opn_pick_andP (eB rfl) (eB rfl) (eB rfl)) rfl ?_;refine sA ?_;refine ALK.ny (opn_move (eB rfl)) rfl rfl (by first | rfl | assumption | (simp [gd];done) | (simp_all [gd];done)) rfl ?_;refine ALK.ny (opn_move (eB rfl)) rfl rfl (by first | rfl | assumption | (simp [gd];done) | (simp_all [gd];done)) rfl ?_;refine ALK.ny (opn_lenStr rfl (eB rfl)) rfl rfl (by first | rfl | assumption | (simp [gd];done) | (simp_all [gd];done)) rfl ?_;refine ALK.ny (opn_arith (c := ((u.length : Nat) : Int)) (eB rfl) (eB rfl) (arith_in (by rw [hlu];simp [arith]) (by omega) (by omega))) rfl rfl (by first | rfl | assumption | (simp [gd];done) | (simp_all [gd];done)) rfl ?_;refine ALK.ny (opn_sliceStr (k := u.length) rfl (eB rfl) (eB rfl) (by omega)) rfl rfl (by first | rfl | assumption | (simp [gd];done) | (simp_all [gd];done)) rfl ?_;refine ALK.ny (opn_cmpS (a := v.drop u.length) (b := [10,45,49,10]) (c := true) (eB rfl) (eB rfl) (by rw [hd];rfl)) rfl rfl (by first | rfl | assumption | (simp [gd];done) | (simp_all [gd];done)) rfl ?_;refine ALK.n (opn_pick_andP (eB rfl) (eB rfl) (eB rfl)) rfl ?_;refine sA ?_;refine zN ?_)
  (repeat apply WP.seq)
  refine WP.ret ?_
  refine RetOk.one Tryz.results3 (ResV.tmp rfl (ImOf.im (ILe.bool ?_)))
  simp [hlu]
  omega
end Go.Proofs.YtjgmbgfcffnanabGreatDoor
namespace Go.Proofs.YtjgmbgfcffnanabGreatDoor
open Go.ChangeShapes Go.WideShapes Go.ChangeAt Go.RowKit Go.WideMaps Go.WideElems Go.Joins
theorem Tryz.own : ownKnob Tryz.prog.godebug = none := by kernel_rfl
theorem Tryz.laidOut : laidOutB Tryz.prog = true := by kernel_rfl
section
variable {H : Type} {enc : TypeId × Value → H} {P : Program}
theorem trodAll_stays (hl : laidOutB P = true) {W W' : World} (hb : Below W.heap.size W W') : ∀ {ts : List TypeId} {vs : List Value} {ds : List (DataW H)} {ps : List MemPlace},
 ts.all (fun t => P.readableRec t && decide (t < P.types.size)) = true → DataW.TrodAll enc P W 0 (fun _ => true) true ts vs ds ps → (∀ p ∈ ps,p.block < W.heap.size) →
 DataW.TrodAll enc P W' 0 (fun b => decide (b < W.heap.size)) true ts vs ds ps
 | [],[],[],_,_,h,_ => h
 | t :: ts,v :: vs,d :: ds,ps,ht,h,hp => by
  obtain ⟨p,q,h1,h2,rfl⟩ := h
  simp only [List.all_cons,Bool.and_eq_true,decide_eq_true_eq] at ht
  exact ⟨p,q,Below.trod hl ht.1.1 ht.1.2 h1 hb (fun x hx => hp x (by simp [hx])),trodAll_stays hl hb ht.2 h2 (fun x hx => hp x (by simp [hx])),rfl⟩
 | [],_ :: _,_,_,_,h,_ => h.elim
 | [],[],_ :: _,_,_,h,_ => h.elim
 | _ :: _,[],_,_,_,h,_ => h.elim
 | _ :: _,_ :: _,[],_,_,h,_ => h.elim
theorem law_post {f : Func} {s : ChangeSpec} {tb : TypeId} {W W' : World} {args : Array Value} {ds gs : List (DataW H)} {before : List MemPlace} (hl : laidOutB P = true)
 (hts : f.params.toList.all (fun t => P.readableRec t && decide (t < P.types.size)) = true) (hrt : f.resultTypes = #[tb]) (hbool : P.underlying tb = some .bool) (hsv : s.vars = [])
 (hW : DataW.Whole enc P f.params.toList s.vars false W args.toList ds gs before)
 (hr : (s.fn H (ds ++ gs)).results = [.lit (.bool true)]) (ha : (s.fn H (ds ++ gs)).args = ds) (hv : (s.fn H (ds ++ gs)).vars = []) (hb : Below W.heap.size W W') :
 s.post enc P f false true false false W args (.bool true) W' := by
 have hlt : ∀ p ∈ before,p.block < W.heap.size := fun p hp => hW.lt p hp
 obtain ⟨p,q,hA,hV,hpq,hz,hn⟩ := hW
 refine ⟨ds,gs,before,[],p,[],⟨p,q,hA,hV,hpq,hz,hn⟩,?_,?_,?_,hb.frame _,fun h => by cases h⟩
 ·rw [hr,hrt]
  exact trodAll_mk1 (shut_bool hbool true)
 ·rw [ha]
  exact trodAll_stays hl hb hts hA (fun x hx => hlt x (by rw [hpq];simp [hx]))
 ·rw [hsv,hv]
  rfl
end
end Go.Proofs.YtjgmbgfcffnanabGreatDoor
