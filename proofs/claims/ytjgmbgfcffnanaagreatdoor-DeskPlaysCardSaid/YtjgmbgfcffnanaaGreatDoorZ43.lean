/- Package desk: Play. The laws of package wire. The desk's law: what must be in any case. Package desk: the law that Play answers as the document says. From a contract ('the law returns true, and nothing that was there has turned') to the row. No condition. From a contract in the logic ('the law returns true') to the row: how arguments of any shape come in. No condition. The types of the statements' arguments, read. No condition. The types of the laws of package wire, read: each number of a plan is an int64, a string is its bytes. No condition. -/
import Derived.ProofKit
import Derived.Lib.SmallJoins
import Derived.Deep.Slices
import Derived.Deep.Fields
import Derived.SizedLaws
import Derived.Test.YtjgmbgfcffnanaaGreatDoorZ42
set_option maxRecDepth 100000
set_option maxHeartbeats 4000000
namespace Go.Proofs.YtjgmbgfcffnanaaGreatDoor
open Go.RowKit
def sbI (bs : List UInt8) : List (List UInt8) → List Ent
 | [] => [(1,.blk 46 [.im (IV.val (.pointer none)),.im (IV.val (.slice none 0 0))])]
 | _ :: _ => [(1,.blk 46 [.off 1 0,.row 3 bs.length]),(3,.row 5 1 cU8 bs)]
def plI (p : Plan) (ls : List (List UInt8)) : List Ent × Nat := ((0,imB 40 (cDk p (runQ p ls ([],dk0 p)).2)) :: sbI (runQ p ls ([],dk0 p)).1 ls,4)
theorem runQ_ne1 (p : Plan) : ∀ (ls : List (List UInt8)) (q : List UInt8 × Dk),q.1 ≠ [] → (runQ p ls q).1 ≠ []
 | [],_,h => h
 | l :: ls,q,h => runQ_ne1 p ls (stp p q l) (fun e => h (List.append_eq_nil_iff.1 (show q.1 ++ _ = [] from e)).1)
theorem runQ_ne (p : Plan) (x : List UInt8) (xs : List (List UInt8)) (q : List UInt8 × Dk) : (runQ p (x :: xs) q).1 ≠ [] :=
 runQ_ne1 p xs (stp p q x) (fun e => by
  have h := (List.append_eq_nil_iff.1 (show q.1 ++ ((lineS p q.2 x).1 ++ [10]) = [] from e)).2
  simp at h)
theorem Play_fn {M : Mem} (hM : GlobM M) (b t : List UInt8) (ht : t.length ≤ 4611686018427387904) : Fn CC 4 [IV.str b,IV.wth M (IV.str t)] (IV.tup [IV.str (scriptS b t),IV.int (scriptE b t)]) := by
 refine Fn.of_rawP _ Tryz.func4 rfl (by kernel_rfl) Tryz.ntmps4 rfl ?_
 intro F hD hro hG
 refine RawP.seq hD hro ?_
 show WP _ _ _ _ _ ⟨[(0,.im (IV.str b)),(1,.im (IV.wth M (IV.str t)))],[],0⟩
 refine WP.shift (Shift.gh 1 rfl (by decide)) ?_
 (refine zR ?_;(iterate 2 refine sA ?_);refine zN ?_)
 refine RawP.seq hD hro ?_
 (refine zR ?_;refine sA ?_;refine ALK.n (o3 (wire_Read_fn b) (Evs.cons Ev.a Evs.nil)) rfl ?_;(iterate 6 refine sA ?_);refine zN ?_)
 refine RawP.seq hD hro ?_
 (refine zR ?_;(iterate 2 refine sA ?_);refine zN ?_)
 obtain ⟨q,hq⟩ : ∃ q,q = readS b := ⟨_,rfl⟩
 rw [← hq]
 refine zC (fun h => ?_) (fun h => ?_)
 ·have hne : q.2 ≠ 0 := by simpa using h
  have hr : scriptE b t = q.2 := by unfold scriptE;rw [← hq,if_neg hne]
  have hS : scriptS b t = [] := by unfold scriptS;rw [hr,if_neg hne]
  rw [hr,hS]
  (refine zR ?_;(iterate 3 refine sA ?_);refine zN ?_)
  (repeat apply WP.seq)
  refine WP.ret ?_
  exact RetP.im hG (RetOk.tup Tryz.results4 rfl ResVs.a)
 refine WP.skip ?_
 have h0 : q.2 = 0 := by simpa using h
 clear h
 have hqp : readS b = (q.1,0) := by rw [← hq,← h0]
 obtain ⟨hc,_,hDD⟩ := write_read (b := b) (p := q.1) hqp
 have hB : TxsB q.1.txns := by have := readS_B b;rw [hqp] at this;exact this
 have hI : PlanI q.1 := planD_I hDD
 have hE : scriptE b t = if 4096 < t.length ∨ 40 < cntS t then 2 else if t ≠ [] ∧ t.getLast? ≠ some 10 then 1 else 0 := by unfold scriptE;rw [hqp,if_pos rfl]
 have hno : ∀ e,scriptE b t = e → e ≠ 0 → scriptS b t = [] := fun e h1 h2 => by unfold scriptS;rw [h1,if_neg h2]
 rw [h0]
 refine RawP.seq hD hro ?_
 (refine zR ?_;refine sA ?_;refine ALK.n (oJ rfl (eB rfl)) rfl ?_;(iterate 2 refine sA ?_);refine gA ?_;refine ALK.g (fun hb => o3 (Count_fn t) (Evs.cons (eC rfl hb) (Evs.cons (eB rfl) Evs.nil))) rfl rfl rfl ?_;refine gA ?_;refine sA ?_;refine zN ?_)
 refine zC (fun h => ?_) (fun h => ?_)
 ·have hbig : 4096 < t.length ∨ 40 < cntS t := by simp at h;omega
  have hr : scriptE b t = 2 := by rw [hE,if_pos hbig]
  rw [hno _ hr (by decide),hr]
  (refine zR ?_;(iterate 2 refine sA ?_);refine zN ?_)
  (repeat apply WP.seq)
  refine WP.ret ?_
  exact RetP.im hG (RetOk.tup Tryz.results4 rfl ResVs.a)
 refine WP.skip ?_
 have hbig : ¬ (4096 < t.length ∨ 40 < cntS t) := by simp at h;omega
 rw [if_neg hbig] at hE
 have h4096 : t.length ≤ 4096 := by omega
 clear h
 refine RawP.seq hD hro ?_
 (refine zR ?_;refine sA ?_;refine ALK.n (oa (a := t) (b := []) (eB rfl) (eB rfl) rfl) rfl ?_;refine sA ?_;refine gA ?_;refine ALK.g (fun hb => o3 (HasSuffix_fn t (by omega)) (Evs.cons (eC rfl hb) (Evs.cons (eB rfl) Evs.nil))) rfl rfl rfl ?_;refine gA ?_;refine sA ?_;refine zN ?_)
 refine zC (fun h => ?_) (fun h => ?_)
 ·have hbad : t ≠ [] ∧ t.getLast? ≠ some 10 := by simp at h;exact ⟨h.1,h.2⟩
  have hr : scriptE b t = 1 := by rw [hE,if_pos hbad]
  rw [hno _ hr (by decide),hr]
  (refine zR ?_;(iterate 2 refine sA ?_);refine zN ?_)
  (repeat apply WP.seq)
  refine WP.ret ?_
  exact RetP.im hG (RetOk.tup Tryz.results4 rfl ResVs.a)
 refine WP.skip ?_
 have hgood : ¬ (t ≠ [] ∧ t.getLast? ≠ some 10) := by
  rintro ⟨e1,e2⟩
  simp [e1,e2] at h
 have hnl : NL t := by
  by_cases e : t = []
  ·exact .inl e
  ·right
   by_cases e2 : t.getLast? = some 10
   ·exact e2
   ·exact absurd ⟨e,e2⟩ hgood
 have hr : scriptE b t = 0 := by rw [hE,if_neg hgood]
 have hS : scriptS b t = (runQ q.1 (linesS t) ([],dk0 q.1)).1 := by unfold scriptS;rw [hr,if_pos rfl,hqp]
 have hbeg : beginE q.1 zero8 = 0 := by unfold beginE;rw [if_pos hc];rfl
 have hB0 := Begin_fn q.1 zero8 hB
 have hbs : begS q.1 zero8 = beginS q.1 zero8 := if_pos hbeg
 rw [hbs] at hB0
 rw [hr,hS]
 clear h
 refine RawP.seq hD hro ?_
 refine WP.shift (Shift.frzBlk 6 rfl rfl rfl) ?_
 (refine zW ?_;refine sA ?_;refine ALK.a (yS (n := 8) (b := 8) (enc := cI) 0 rfl rfl (fun _ => rfl) rfl rfl rfl (eB rfl) (eB rfl) rfl (by omega) (by omega)) rfl ?_;refine ALK.n (yC rfl rfl rfl rfl (Pc rfl (eB rfl) Cs.a rfl rfl (Pc rfl (eB rfl) Cs.a rfl rfl Parts.nil))) rfl ?_;refine ALK.a (uT (eB rfl) Cs.a) rfl ?_;(iterate 2 refine sA ?_);refine zD ?_)
 refine RawP.seq hD hro ?_
 refine WP.shift (Shift.frzIn 2 2 rfl rfl rfl rfl) ?_
 refine WP.shift (Shift.frzPp 8 rfl rfl) ?_
 (refine zW ?_;refine ALK.n (oe rfl rfl (eB rfl) rfl) rfl ?_;refine sA ?_;refine ALK.n (oe rfl rfl (eB rfl) rfl) rfl ?_;refine sA ?_;refine fd 2 ?_;refine sA ?_;refine ALK.n (o3 hB0 (Evs.cons Ev.a (Evs.cons Ev.a Evs.nil))) rfl ?_;(iterate 4 refine sA ?_);refine fd 3 ?_;refine sA ?_;refine zD ?_)
 refine RawP.seq hD hro ?_
 (refine zR ?_;refine sA ?_;refine zN ?_)
 refine RawP.seq2 hD hro ?_
 (refine zR ?_;refine sA ?_;refine ALK.e (o5 [] (Lines_new t) EvsS.a rfl rfl rfl HIn.a) rfl rfl ?_;refine zN ?_)
 refine Raw.rangeL (b := 2) (tb := 9) (M := M) (t := t) (σ := [(8,.pp [.off 0 0]),(9,.off 1 0),(51,.fn 39 [.off 2 0]),(ghT,.im (IV.gh M))])
  (plI q.1) (fun i => by cases i <;> rfl) (fun i => by cases i <;> rfl) hD hro
  (Shift.sub [(0,2),(1,4),(2,5)] rfl (SubE.cons rfl (SLe.pp (SLes.cons (SLe.off rfl rfl) SLes.nil)) (SubE.cons rfl (SLe.off rfl rfl) (SubE.cons rfl (SLe.fn (SLes.cons (SLe.off rfl rfl) SLes.nil)) (SubE.cons rfl SLe.a SubE.nil)))) (SubH.cons rfl rfl (ObLe.blk SLes.a) (SubH.cons rfl rfl (ObLe.blk SLes.a) (SubH.cons rfl rfl (ObLe.blk SLes.a) SubH.nil)))) rfl rfl lines_iter hnl ht rfl rfl ?_ ?_
 ·rintro F' hD' ts pre u r hlr
  obtain ⟨Q,hQ⟩ : ∃ Q,Q = runQ q.1 pre ([],dk0 q.1) := ⟨_,rfl⟩
  obtain ⟨g,hlen⟩ := runQ_good hI (ls := pre) (q := ([],dk0 q.1)) (Good.zero hc)
  rw [← hQ] at g hlen
  have h900 := g.len hI u
  have hul : u.length ≤ t.length := linesS_each t u (by rw [hlr];simp)
  have hpl : pre.length ≤ t.length := by
   have := vC t
   rw [hlr,List.length_append] at this
   omega
  have hQ1 : Q.1.length ≤ 901 * 4096 := Nat.le_trans hlen (by rw [List.length_nil,Nat.zero_add];exact Nat.mul_le_mul_left _ (by omega))
  have hl1 : ((lineS q.1 Q.2 u).1 ++ [10]).length ≤ 901 := by rw [List.length_append,List.length_singleton];omega
  have hnx : plI q.1 (pre ++ [u]) = ([(0,imB 40 (cDk q.1 (lineS q.1 Q.2 u).2)),(1,.blk 46 [.off 1 0,.row 3 (Q.1 ++ ((lineS q.1 Q.2 u).1 ++ [10])).length]),(3,.row 5 1 cU8 (Q.1 ++ ((lineS q.1 Q.2 u).1 ++ [10])))],4) := by
   unfold plI
   rw [runQ_snoc,← hQ]
   cases pre <;> rfl
  rw [hnx]
  clear hlr hlen hpl
  cases pre with
  | nil =>
   have hQ0 : Q = ([],dk0 q.1) := hQ
   have hpl : plI q.1 [] = ([(0,imB 40 (cDk q.1 Q.2)),(1,.blk 46 [.im (IV.val (.pointer none)),.im (IV.val (.slice none 0 0))])],4) := by rw [hQ0];rfl
   rw [hpl]
   show WP _ _ _ _ _ ⟨[(52,.im (IV.wth M (IV.str (u ++ [10])))),(8,.is (ts.getD 8 undef) (.pp [.off 0 0])),(9,.is (ts.getD 9 undef) (.off 1 0)),(51,.is (ts.getD 51 undef) (.fn 39 [.off 2 0])),(ghT,.is (ts.getD ghT undef) (.im (IV.gh M)))],[bx 2 9 r,(0,imB 40 (cDk q.1 Q.2)),(1,.blk 46 [.im (IV.val (.pointer none)),.im (IV.val (.slice none 0 0))])],4⟩
   (refine zR ?_;refine sI ?_;refine zN ?_)
   refine ⟨rfl,rfl,fun F2 hD2 => ?_⟩
   refine zB ?_
   (refine zW ?_;refine ALK.n (oe rfl rfl (Ev.is rfl) rfl) rfl ?_;refine sI ?_;refine ALK.n (o3 (Fn.wth (M := M) (vi u (by omega))) (Evs.cons (eB rfl) (Evs.cons (eB rfl) Evs.nil))) rfl ?_;refine ALK.e (o5 [0] (line_e hM q.1 Q.2 u g hB hI (by omega)) (EvsS.cons (eB rfl) (EvsS.cons (eB rfl) EvsS.nil)) rfl rfl rfl HIn.a) rfl rfl ?_;refine ALK.n (ol (b := [10]) (eB rfl) (eB rfl) (by rw [List.length_singleton];omega)) rfl ?_;refine ALK.e (o5 [1] (ws_fresh ((lineS q.1 Q.2 u).1 ++ [10]) (by omega)) (EvsS.cons (Ev.is rfl) (EvsS.cons (eB rfl) EvsS.nil)) rfl rfl rfl HIn.a) rfl rfl ?_;refine zD ?_)
   refine ⟨rfl,?_⟩
   rw [show Q.1 = [] by rw [hQ0],List.nil_append]
   exact Shift.sub [(0,0),(1,1),(2,2),(3,5)] rfl (SubE.cons rfl (SLe.is (SLe.pp (SLes.cons (SLe.off rfl rfl) SLes.nil))) (SubE.cons rfl (SLe.is (SLe.off rfl rfl)) (SubE.cons rfl (SLe.is (SLe.fn (SLes.cons (SLe.off rfl rfl) SLes.nil))) (SubE.cons rfl (SLe.is (SLe.im ILe.refl)) SubE.nil)))) (SubH.cons rfl rfl (ObLe.blk SLes.a) (SubH.cons rfl rfl (ObLe.blk SLes.a) (SubH.cons rfl rfl (ObLe.blk (SLes.cons (SLe.off rfl rfl) (SLes.cons (SLe.row rfl rfl) SLes.nil))) (SubH.cons rfl rfl (ObLe.row rfl) SubH.nil))))
  | cons x xs =>
   have hpl : plI q.1 (x :: xs) = ([(0,imB 40 (cDk q.1 Q.2)),(1,.blk 46 [.off 1 0,.row 3 Q.1.length]),(3,.row 5 1 cU8 Q.1)],4) := by rw [hQ];rfl
   rw [hpl]
   show WP _ _ _ _ _ ⟨[(52,.im (IV.wth M (IV.str (u ++ [10])))),(8,.is (ts.getD 8 undef) (.pp [.off 0 0])),(9,.is (ts.getD 9 undef) (.off 1 0)),(51,.is (ts.getD 51 undef) (.fn 39 [.off 2 0])),(ghT,.is (ts.getD ghT undef) (.im (IV.gh M)))],[bx 2 9 r,(0,imB 40 (cDk q.1 Q.2)),(1,.blk 46 [.off 1 0,.row 3 Q.1.length]),(3,.row 5 1 cU8 Q.1)],4⟩
   (refine zR ?_;refine sI ?_;refine zN ?_)
   refine ⟨rfl,rfl,fun F2 hD2 => ?_⟩
   refine zB ?_
   (refine zW ?_;refine ALK.n (oe rfl rfl (Ev.is rfl) rfl) rfl ?_;refine sI ?_;refine ALK.n (o3 (Fn.wth (M := M) (vi u (by omega))) (Evs.cons (eB rfl) (Evs.cons (eB rfl) Evs.nil))) rfl ?_;refine ALK.e (o5 [0] (line_e hM q.1 Q.2 u g hB hI (by omega)) (EvsS.cons (eB rfl) (EvsS.cons (eB rfl) EvsS.nil)) rfl rfl rfl HIn.a) rfl rfl ?_;refine ALK.n (ol (b := [10]) (eB rfl) (eB rfl) (by rw [List.length_singleton];omega)) rfl ?_;refine ALK.e (o5 [1,3] (ws_used Q.1 ((lineS q.1 Q.2 u).1 ++ [10]) (by omega)) (EvsS.cons (Ev.is rfl) (EvsS.cons (eB rfl) EvsS.nil)) rfl rfl rfl HIn.a) rfl rfl ?_;refine zD ?_)
   refine ⟨rfl,?_⟩
   exact Shift.sub [(0,0),(1,1),(2,2),(3,4)] rfl (SubE.cons rfl (SLe.is (SLe.pp (SLes.cons (SLe.off rfl rfl) SLes.nil))) (SubE.cons rfl (SLe.is (SLe.off rfl rfl)) (SubE.cons rfl (SLe.is (SLe.fn (SLes.cons (SLe.off rfl rfl) SLes.nil))) (SubE.cons rfl (SLe.is (SLe.im ILe.refl)) SubE.nil)))) (SubH.cons rfl rfl (ObLe.blk SLes.a) (SubH.cons rfl rfl (ObLe.blk SLes.a) (SubH.cons rfl rfl (ObLe.blk (SLes.cons (SLe.off rfl rfl) (SLes.cons (SLe.row rfl rfl) SLes.nil))) (SubH.cons rfl rfl (ObLe.row rfl) SubH.nil))))
 ·intro F2
  obtain ⟨ls,hls⟩ : ∃ ls,ls = linesS t := ⟨_,rfl⟩
  rw [← hls]
  obtain ⟨Q,hQ⟩ : ∃ Q,Q = runQ q.1 ls ([],dk0 q.1) := ⟨_,rfl⟩
  cases ls with
  | nil =>
   have hpl : plI q.1 [] = ([(0,imB 40 (cDk q.1 Q.2)),(1,.blk 46 [.im (IV.val (.pointer none)),.im (IV.val (.slice none 0 0))])],4) := by rw [hQ];rfl
   have hr1 : (runQ q.1 [] ([],dk0 q.1)).1 = [] := rfl
   rw [hpl,hr1]
   show WP _ _ _ _ _ ⟨[(8,.pp [.off 0 0]),(9,.off 1 0),(51,.fn 39 [.off 2 0]),(ghT,.im (IV.gh M))],[bx 2 9 [],(0,imB 40 (cDk q.1 Q.2)),(1,.blk 46 [.im (IV.val (.pointer none)),.im (IV.val (.slice none 0 0))])],4⟩
   (refine zR ?_;refine ALK.e (o5 [1] str_fresh EvsS.a rfl rfl rfl HIn.a) rfl rfl ?_;(iterate 2 refine sA ?_);refine zN ?_)
   (repeat apply WP.seq)
   refine WP.ret ?_
   exact ⟨rfl,rfl,RetP.im hG (RetOk.tup Tryz.results4 rfl ResVs.a)⟩
  | cons x xs =>
   have hpl : plI q.1 (x :: xs) = ([(0,imB 40 (cDk q.1 Q.2)),(1,.blk 46 [.off 1 0,.row 3 Q.1.length]),(3,.row 5 1 cU8 Q.1)],4) := by rw [hQ];rfl
   have hne : Q.1 ≠ [] := by rw [hQ];exact runQ_ne q.1 x xs _
   rw [hpl,← hQ]
   show WP _ _ _ _ _ ⟨[(8,.pp [.off 0 0]),(9,.off 1 0),(51,.fn 39 [.off 2 0]),(ghT,.im (IV.gh M))],[bx 2 9 [],(0,imB 40 (cDk q.1 Q.2)),(1,.blk 46 [.off 1 0,.row 3 Q.1.length]),(3,.row 5 1 cU8 Q.1)],4⟩
   (refine zR ?_;refine ALK.e (o5 [1,3] (str_used Q.1 hne) EvsS.a rfl rfl rfl HIn.a) rfl rfl ?_;(iterate 2 refine sA ?_);refine zN ?_)
   (repeat apply WP.seq)
   refine WP.ret ?_
   exact ⟨rfl,rfl,RetP.im hG (RetOk.tup Tryz.results4 rfl ResVs.a)⟩
theorem threeI : PlanI threeP := by
 unfold PlanI TxnI GuardI SetI I64
 decide +kernel
theorem three0 : checkPlan threeP = 0 := by decide +kernel
def begT : List UInt8 := [112,117,116,32,48,32,53,10,112,117,116,32,49,32,49,10,99,97,110,10,114,101,97,100,32,49,32,49,10,114,101,97,100,32,48,32,49,10,97,117,100,105,116,10,114,101,115,116,10,99,97,110,10,115,116,111,114,101,10,97,117,100,105,116,10,112,117,116,32,56,32,49,10,120,10]
def begS' : List UInt8 := [111,107,10,111,107,10,114,101,97,100,32,48,32,48,59,32,114,101,97,100,32,48,32,49,59,32,114,101,97,100,32,50,32,49,10,101,114,114,111,114,32,54,10,111,107,10,101,114,114,111,114,32,56,10,55,10,111,118,101,114,10,50,32,52,32,48,32,48,32,48,32,52,32,48,32,57,10,45,49,10,101,114,114,111,114,32,51,10,101,114,114,111,114,32,49,10]
theorem beg_run : (runQ threeP (linesS begT) ([],dk0 threeP)).1 = begS' := by decide +kernel
theorem beg_E : scriptE (bPlan threeP) begT = 0 := by
 have hr : readS (bPlan threeP) = (threeP,0) := read_write three0 threeI
 unfold scriptE
 rw [hr,if_pos rfl,if_neg (by decide +kernel),if_neg (by decide +kernel)]
theorem beg_S : scriptS (bPlan threeP) begT = begS' := by
 have hr : readS (bPlan threeP) = (threeP,0) := read_write three0 threeI
 unfold scriptS
 rw [if_pos beg_E,hr]
 exact beg_run
def FnGh (M : Mem) (C : Cfg) (f : FuncId) (args : List IV) (s : IV) : Prop :=
 (∃ fn,C.P.funcs[f]? = some fn ∧ fn.body.isNone = false ∧ (fn.name == "runtime.NumGoroutine") = false) ∧
 ∀ μ w vs,IVs μ args vs → Agr μ w → Mem.le M μ → Calls C.P f vs.toArray w fun e w' => ∃ v μ',e = .returned v ∧ s.p μ' v ∧ Stp μ w μ' w'
section
variable {C : Cfg} {σ : Env} {d : Option Tmp} {ty : TypeId} {pos : String} {after : Array Edge} {gu : Option (Nat × Bool)}
theorem opn_callGh {M : Mem} {f : FuncId} {xs : List Go.Operand} {tys : Array TypeId} {args : List IV} {s : IV} (hg : lk σ ghT = some (.im (IV.gh M))) (hf : FnGh M C f args s) (hx : Evs σ xs args) : OpN C ⟨d,.call { callee := .value (.func f),args := xs.toArray,argTypes := tys },ty,pos,after,gu⟩ σ (.im s) := fun ρ μ a w hl ha => by
 obtain ⟨⟨fn,h1,h2,h3⟩,h4⟩ := hf
 have h5 := hx.at hl (fun x hx => by simp [Op.operands,Call.operands,hx])
 have h6 : (execOp a.eval ⟨d,.call { callee := .value (.func f),args := xs.toArray,argTypes := tys },ty,pos,after,gu⟩).run C.P w = .ok (.enter f (xs.map a.eval).toArray) w := by
  simp [execOp,resolve,Act.eval,Deferred.ofValue,invoke,oX h1 h2 h3]
 unfold Oper.wp
 rw [h6]
 have hM := oi.1 (hl ghT List.mem_cons_self _ hg)
 refine Calls.mono (h4 μ w _ h5 ha hM) ?_
 rintro e w' ⟨v,μ',rfl,h7,h8⟩
 exact ⟨v,μ',rfl,oi.2 h7,h8⟩
end
theorem FnGh.of_wp {M : Mem} {C : Cfg} {f : FuncId} {fn : Func} {c : Code} {args : List IV} {s : IV} (nt : Nat) (hf : C.P.funcs[f]? = some fn) (hb : fn.body = some c) (hname : (fn.name == "runtime.NumGoroutine") = false) (hnt : fn.ntmps = nt) (hn : Nat.ble args.length nt = true) (_ : Nat.ble nt ghT = true)
 (h : ∀ F : Fx,F.D = [] → (∀ g,¬ F.G g) → WP C F nt c (FnQ C F nt fn s) ⟨(ghT,.im (IV.gh M)) :: env0 0 args,[],0⟩) : FnGh M C f args s := by
 refine ⟨⟨fn,hf,by rw [hb];rfl,hname⟩,fun μ w vs hvs ha hM => ?_⟩
 have hlen := hvs.length
 refine calls_of_wp hf hb ((wpIn_wide (n := 9)).1 ?_)
 have hle := Nat.le_of_ble_eq_true hn
 have hi0 : Inv ⟨w,μ,fun _ => False,[],none⟩ nt ⟨env0 0 args,[],0⟩ μ (fun _ => none) { tmps := vs.toArray ++ Array.replicate (fn.ntmps - vs.toArray.size) undef,defers := [] } w := by
  refine ⟨by simp;omega,rfl,fun t s hs => ?_,ha,⟨(fun e he => by cases he),(fun e he => by cases he)⟩,fun i hi => absurd rfl hi,rfl,rfl,rfl,Nat.le_refl _,fun _ _ _ => rfl,Mem.le.refl _,fun b hb => .inl hb,(fun e he => by cases he)⟩
  obtain ⟨j,s',h1,h2,rfl⟩ := qr hs
  rw [Nat.zero_add] at h1
  subst h1
  obtain ⟨v,h3,h4⟩ := hvs.get h2
  have hj : t < vs.length := (List.getElem?_eq_some_iff.1 h3).1
  refine oi.2 ?_
  have : (vs.toArray ++ Array.replicate (fn.ntmps - vs.toArray.size) undef).getD t undef = v := by
   rw [Array.getD_eq_getD_getElem?,Array.getElem?_append_left (by simpa using hj)]
   simp [h3]
  rw [this];exact h4
 have hi := hi0.slot (d := ghT) (s := .im (IV.gh M)) (oi.2 hM)
 refine wpIn_mono (h ⟨w,μ,fun _ => False,[],none⟩ rfl (fun _ h => h) μ _ _ w hi) ?_
 rintro e a' w' ⟨y,μ',ρ',hq,hy⟩
 have key : RetOk C ⟨w,μ,fun _ => False,[],none⟩ nt fn s y → a'.defers = [] ∧ ∃ v,(results fn a'.tmps).run C.P w' = .ok v w' ∧ ∃ v_1 μ',Ending.returned v = .returned v_1 ∧ s.p μ' v_1 ∧ Stp μ w μ' w' := fun hr => by
  obtain ⟨v,ν,h1,h2,h3,h4,h5⟩ := hr μ' ρ' a' w' hy
  exact ⟨hy.defers,v,h1,v,ν,rfl,h2,⟨⟨hy.os,hy.tape,hy.output,hy.hsize,fun k hk => hy.block k hk (fun h => h)⟩,h3,fun b hb => (h4 b hb).imp id (fun hx => hx.elim id (fun hf => hf.elim)),h5⟩⟩
 cases e with
 | normal => exact key hq
 | ret => exact key hq
 | _ => exact hq.elim
theorem deskBegun_g {M : Mem} (hM : GlobM M) : FnGh M CC 6 [] (IV.bool true) := by
 have hw : writeS threeP = bPlan threeP := by unfold writeS;rw [if_pos three0]
 have hP := Play_fn hM (bPlan threeP) begT (by decide)
 rw [beg_S,beg_E] at hP
 refine FnGh.of_wp _ Tryz.func6 rfl (by kernel_rfl) Tryz.ntmps6 rfl rfl ?_
 intro F hD hG
 show WP _ _ _ _ _ ⟨[(ghT,.im (IV.gh M))],[],0⟩
 (refine zR ?_;refine sA ?_;refine zN ?_)
 (refine zR ?_;refine ALK.n (o3 three_fn Evs.nil) rfl ?_;refine ALK.n (o3 (wire_Write_fn threeP threeB) (Evs.cons Ev.a Evs.nil)) rfl ?_;(iterate 5 refine sA ?_);refine zN ?_)
 rw [hw,three0]
 (refine zR ?_;refine sA ?_;refine ALK.n (o3 hP (Evs.cons (eB rfl) (Evs.cons (Ev.wth (eB rfl) rfl) Evs.nil))) rfl ?_;(iterate 5 refine sA ?_);refine zN ?_)
 (refine zR ?_;(iterate 3 refine sA ?_);refine ALK.ny (o4 (eB rfl)) rfl rfl (by first | rfl | assumption | (simp [gd];done) | (simp_all [gd];done)) rfl ?_;(first | refine ALK.ny (oC (eB rfl) (eB rfl) rfl) rfl rfl (by first | rfl | assumption | (simp [gd];done) | (simp_all [gd];done)) rfl ?_ | refine ALK.ny (oB rfl (eB rfl) (eB rfl) rfl) rfl rfl (by first | rfl | assumption | (simp [gd];done) | (simp_all [gd];done)) rfl ?_);refine ALK.n (u5 (eB rfl) (eB rfl) (eB rfl)) rfl ?_;refine sA ?_;refine ALK.ny (o4 (eB rfl)) rfl rfl (by first | rfl | assumption | (simp [gd];done) | (simp_all [gd];done)) rfl ?_;refine ALK.ny (oa (a := begS') (b := begS') (c := true) (eB rfl) (eB rfl) (by simp [cmpS])) rfl rfl (by first | rfl | assumption | (simp [gd];done) | (simp_all [gd];done)) rfl ?_;refine ALK.n (u5 (eB rfl) (eB rfl) (eB rfl)) rfl ?_;refine sA ?_;refine zN ?_)
 (repeat apply WP.seq)
 refine WP.ret ?_
 refine RetOk.one Tryz.results6 (ResV.tmp rfl (ImOf.im (ILe.bool ?_)))
 simp
theorem DeskPlays_fn {M : Mem} (hM : GlobM M) (b t : List UInt8) (ht : t.length ≤ 4611686018427387904) : Fn CC 3 [IV.str b,IV.wth M (IV.str t)] (IV.bool true) := by
 refine Fn.of_wp _ Tryz.func3 rfl (by kernel_rfl) Tryz.ntmps3 rfl ?_
 intro F hD hG
 show WP _ _ _ _ _ ⟨[(0,.im (IV.str b)),(1,.im (IV.wth M (IV.str t)))],[],0⟩
 refine WP.shift (Shift.gh 1 rfl (by decide)) ?_
 (refine zR ?_;refine sA ?_;refine zN ?_)
 (refine zR ?_;(iterate 2 refine sA ?_);refine ALK.n (o3 (Play_fn hM b t ht) (Evs.cons (eB rfl) (Evs.cons (Ev.wth (eB rfl) rfl) Evs.nil))) rfl ?_;(iterate 5 refine sA ?_);refine zN ?_)
 (refine zR ?_;(iterate 2 refine sA ?_);refine ALK.n (o3 (ref_ScriptOf_fn b t ht) (Evs.cons Ev.a (Evs.cons Ev.a Evs.nil))) rfl ?_;(iterate 5 refine sA ?_);refine zN ?_)
 (refine zR ?_;refine ALK.n (opn_callGh rfl (deskBegun_g hM) Evs.nil) rfl ?_;refine sA ?_;refine ALK.ny (o4 (eB rfl)) rfl rfl (by first | rfl | assumption | (simp [gd];done) | (simp_all [gd];done)) rfl ?_;refine ALK.ny (o4 (eB rfl)) rfl rfl (by first | rfl | assumption | (simp [gd];done) | (simp_all [gd];done)) rfl ?_;refine ALK.ny (oa (a := scriptS b t) (b := scriptS b t) (c := true) (eB rfl) (eB rfl) (by simp [cmpS])) rfl rfl (by first | rfl | assumption | (simp [gd];done) | (simp_all [gd];done)) rfl ?_;refine ALK.n (u5 (eB rfl) (eB rfl) (eB rfl)) rfl ?_;refine sA ?_;refine ALK.ny (o4 (eB rfl)) rfl rfl (by first | rfl | assumption | (simp [gd];done) | (simp_all [gd];done)) rfl ?_;refine ALK.ny (o4 (eB rfl)) rfl rfl (by first | rfl | assumption | (simp [gd];done) | (simp_all [gd];done)) rfl ?_;(first | refine ALK.ny (oC (eB rfl) (eB rfl) rfl) rfl rfl (by first | rfl | assumption | (simp [gd];done) | (simp_all [gd];done)) rfl ?_ | refine ALK.ny (oB rfl (eB rfl) (eB rfl) rfl) rfl rfl (by first | rfl | assumption | (simp [gd];done) | (simp_all [gd];done)) rfl ?_);refine ALK.n (u5 (eB rfl) (eB rfl) (eB rfl)) rfl ?_;refine sA ?_;refine zN ?_)
 (repeat apply WP.seq)
 refine WP.ret ?_
 refine RetOk.one Tryz.results3 (ResV.tmp rfl (ImOf.im (ILe.bool ?_)))
 simp
end Go.Proofs.YtjgmbgfcffnanaaGreatDoor
namespace Go.Proofs.YtjgmbgfcffnanaaGreatDoor
open Go.ChangeShapes Go.WideShapes Go.ChangeAt Go.RowKit Go.WideMaps Go.WideElems Go.Joins
theorem Tryz.own : ownKnob Tryz.prog.godebug = none := by kernel_rfl
theorem Tryz.laidOut : laidOutB Tryz.prog = true := by kernel_rfl
section
variable {H : Type} {enc : TypeId × Value → H} {P : Program}
theorem vh (hl : laidOutB P = true) {W W' : World} (hb : Below W.heap.size W W') : ∀ {ts : List TypeId} {vs : List Value} {ds : List (DataW H)} {ps : List MemPlace},
 ts.all (fun t => P.readableRec t && decide (t < P.types.size)) = true → DataW.TrodAll enc P W 0 (fun _ => true) true ts vs ds ps → (∀ p ∈ ps,p.block < W.heap.size) →
 DataW.TrodAll enc P W' 0 (fun b => decide (b < W.heap.size)) true ts vs ds ps
 | [],[],[],_,_,h,_ => h
 | t :: ts,v :: vs,d :: ds,ps,ht,h,hp => by
  obtain ⟨p,q,h1,h2,rfl⟩ := h
  simp only [List.all_cons,Bool.and_eq_true,decide_eq_true_eq] at ht
  exact ⟨p,q,Below.trod hl ht.1.1 ht.1.2 h1 hb (fun x hx => hp x (by simp [hx])),vh hl hb ht.2 h2 (fun x hx => hp x (by simp [hx])),rfl⟩
 | [],_ :: _,_,_,_,h,_ => h.elim
 | [],[],_ :: _,_,_,h,_ => h.elim
 | _ :: _,[],_,_,_,h,_ => h.elim
 | _ :: _,_ :: _,[],_,_,h,_ => h.elim
theorem law_post {f : Func} {s : ChangeSpec} {tb : TypeId} {W W' : World} {args : Array Value} {ds gs : List (DataW H)} {before : List MemPlace} (hl : laidOutB P = true)
 (hts : f.params.toList.all (fun t => P.readableRec t && decide (t < P.types.size)) = true) (hrt : f.resultTypes = #[tb]) (hbool : P.underlying tb = some .bool) (hsv : s.vars = [])
 (hW : DataW.Whole enc P f.params.toList s.vars false W args.toList ds gs before)
 (hr : (s.fn H (ds ++ gs)).results = [.lit (.bool true)]) (ha : (s.fn H (ds ++ gs)).args = ds) (hv : (s.fn H (ds ++ gs)).vars = []) (hb : Below W.heap.size W W') :
 s.post enc P f false true false false W args (.bool true) W' := by
 have hlt : ∀ p ∈ before,p.block < W.heap.size := fun p hp => hW.lt p hp
 obtain ⟨p,q,hA,hV,hpq,hz,hn⟩ := hW
 refine ⟨ds,gs,before,[],p,[],⟨p,q,hA,hV,hpq,hz,hn⟩,?_,?_,?_,hb.frame _,fun h => by cases h⟩
 ·rw [hr,hrt]
  exact trodAll_mk1 (shut_bool hbool true)
 ·rw [ha]
  exact vh hl hb hts hA (fun x hx => hlt x (by rw [hpq];simp [hx]))
 ·rw [hsv,hv]
  rfl
end
def memOf (W : World) : Mem := fun b => match W.heap[b]? with
 | some (.cells cs _ _) => some cs
 | _ => none
theorem memOf_agr (W : World) : Agr (memOf W) W := fun b cs h => by
 unfold memOf at h
 split at h
 ·rename_i c t fz e;injection h with h;subst h;exact ⟨t,fz,e⟩
 ·cases h
section
variable {H : Type} {enc : TypeId × Value → H} {P : Program} {W : World}
def wOk (P : Program) (t : TypeId) (d : DataW H) : Prop := ∀ n ∈ d.weights P t,n ≤ reachBytes
def Rg (enc : TypeId × Value → H) (P : Program) (W : World) (t : TypeId) (k : Nat) {α : Type} (e : α → List IV) (Q : α → Prop) : Prop :=
 ∀ n cs d p,DataW.trod enc P W 0 (fun _ => true) true n t cs = some (d,p) → cs.length = k → wOk P t d → ∃ x,IVs (memOf W) (e x) cs ∧ One cs ∧ Q x
theorem arg_one {t : TypeId} {α : Type} {e : α → List IV} {s : α → IV} {Q : α → Prop} {base : Nat} {v : Value} {d : DataW H} {p : List MemPlace} (h : Rg enc P W t 1 e Q) (he : ∀ x,e x = [s x]) (hag : match P.underlying t with | some u => aggB u = false | none => False)
 (hv : Value.okWide P W .any base t v) (hd : DataW.Trod enc P W 0 (fun _ => true) true t v d p) (hw : wOk P t d) : ∃ x,(s x).p (memOf W) v ∧ Q x := by
 obtain ⟨fuel,hd⟩ := hd
 have hone : v.cells = #[v] := by
  cases hu : P.underlying t with
  | none => rw [hu] at hag;exact hag.elim
  | some u =>
   rw [hu] at hag
   cases v with
   | agg cs => exfalso;unfold Value.okWide at hv;rw [hu] at hv;cases u <;> simp_all [aggB,Cell.okWide,Cell.ok]
   | _ => rfl
 rw [hone] at hd
 obtain ⟨x,h1,h2,h3⟩ := h fuel _ _ _ hd rfl hw
 rw [he] at h1
 obtain ⟨v',vs,e1,h4,_⟩ := h1
 simp at e1
 exact ⟨x,by rw [e1.1];exact h4,h3⟩
theorem wOk_each {ts : List TypeId} {ds : List (DataW H)} (h : (DataW.weightsEach P ts ds).all (· ≤ reachBytes) = true) {j : Nat} {t : TypeId} {d : DataW H} (ht : ts[j]? = some t) (hd : ds[j]? = some d) : wOk P t d := fun n hn => by
 have := List.all_eq_true.1 h n (DataW.weights_mem_each ht hd n hn)
 simpa using this
end
theorem fn_calls {C : Cfg} {f : FuncId} {args : List IV} {b : Bool} (h : Fn C f args (IV.bool b)) {μ : Mem} {w : World} (ha : Agr μ w) {vs : List Value} (hv : IVs μ args vs) : Calls C.P f vs.toArray w fun e w' => e = .returned (.bool b) ∧ Below w.heap.size w w' :=
 (h.2 μ w vs hv ha).mono fun e w' ⟨v,μ',he,hp,hs⟩ => ⟨by rw [he,show v = .bool b from hp],hs.below⟩
theorem wOk_args {H : Type} {P : Program} {ts ts' : List TypeId} {ds gs : List (DataW H)} (h : (DataW.weightsEach P (ts ++ ts') (ds ++ gs)).all (· ≤ reachBytes) = true) : (DataW.weightsEach P ts ds).all (· ≤ reachBytes) = true := by
 refine List.all_eq_true.2 fun n hn => List.all_eq_true.1 h n ?_
 clear h
 induction ts generalizing ds with
 | nil => simp [DataW.weightsEach] at hn
 | cons t ts ih =>
  cases ds with
  | nil => simp [DataW.weightsEach] at hn
  | cons d ds =>
   simp only [DataW.weightsEach,List.cons_append,List.mem_append] at hn ⊢
   exact hn.imp id ih
end Go.Proofs.YtjgmbgfcffnanaaGreatDoor
