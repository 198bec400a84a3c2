/- The laws' own transactions and plans. Package graph: who clashes with whom. Package store and its reference. Package store and its reference: many transactions. -/
import Derived.Test.YtjgmbgfcffnanaaGreatDoorZ8
set_option maxRecDepth 100000
namespace Go.Proofs.YtjgmbgfcffnanaaGreatDoor
open Go.RowKit
abbrev opV (k n : Int) : IV := IV.agg [IV.int k,IV.int n]
def payT (n : Int) : Txn := ⟨[0,1],[⟨4,⟨1,n⟩,⟨2,0⟩⟩],[⟨0,3,⟨2,0⟩,⟨1,n⟩⟩,⟨1,2,⟨2,1⟩,⟨1,n⟩⟩]⟩
def noteT : Txn := ⟨[1],[],[⟨5,1,⟨2,0⟩,⟨1,0⟩⟩]⟩
def markT (n : Int) : Txn := ⟨[],[],[⟨7,1,⟨1,n⟩,⟨1,0⟩⟩]⟩
def threeP : Plan := ⟨2,[payT 3,noteT,markT 9]⟩
theorem payB (n : Int) : TxnB (payT n) := by unfold TxnB;simp [payT]
theorem noteB : TxnB noteT := by unfold TxnB;simp [noteT]
theorem markB (n : Int) : TxnB (markT n) := by unfold TxnB;simp [markT]
theorem TxsB.nil : TxsB [] := fun t h => by cases h
theorem TxsB.cons {t : Txn} {l : List Txn} (h : TxnB t) (k : TxsB l) : TxsB (t :: l) := fun x hx => (List.mem_cons.1 hx).elim (fun e => e ▸ h) (k x)
theorem threeB : TxsB threeP.txns := .cons (payB 3) (.cons noteB (.cons (markB 9) .nil))
theorem uX (n : Int) : Fn CC 110 [IV.int n] (opV 1 n) := by
 refine Fn.of_wp _ Tryz.func110 rfl (by kernel_rfl) Tryz.ntmps110 rfl ?_
 intro F hD hG
 (refine zR ?_;refine sA ?_;refine zN ?_)
 (refine zR ?_;(iterate 3 refine sA ?_);refine zN ?_)
 exact zT Tryz.results110
theorem value_fn (n : Int) : Fn CC 111 [IV.int n] (opV 2 n) := by
 refine Fn.of_wp _ Tryz.func111 rfl (by kernel_rfl) Tryz.ntmps111 rfl ?_
 intro F hD hG
 (refine zR ?_;refine sA ?_;refine zN ?_)
 (refine zR ?_;(iterate 3 refine sA ?_);refine zN ?_)
 exact zT Tryz.results111
theorem pay_fn (n : Int) : Fn CC 75 [IV.int n] (txnV (payT n)) := by
 refine Fn.of_wp _ Tryz.func75 rfl (by kernel_rfl) Tryz.ntmps75 rfl ?_
 intro F hD hG
 (refine zR ?_;refine sA ?_;refine zN ?_)
 (refine zR ?_;refine ALK.n (o6 rfl rfl rfl rfl rfl rfl (Pc rfl (eB rfl) Cs.a rfl rfl (Pc rfl (eB rfl) Cs.a rfl rfl Parts.nil)) rfl) rfl ?_;refine sA ?_;refine ALK.n (o3 (uX _) (Evs.cons Ev.a Evs.nil)) rfl ?_;refine ALK.n (o3 (value_fn _) (Evs.cons Ev.a Evs.nil)) rfl ?_;refine sA ?_;refine ALK.n (o6 rfl rfl rfl rfl rfl rfl (Pc rfl (eB rfl) Cs.a rfl rfl Parts.nil) rfl) rfl ?_;refine ALK.n (o3 (value_fn _) (Evs.cons Ev.a Evs.nil)) rfl ?_;refine sA ?_;refine ALK.n (o3 (uX _) (Evs.cons Ev.a Evs.nil)) rfl ?_;refine sA ?_;refine ALK.n (o3 (value_fn _) (Evs.cons Ev.a Evs.nil)) rfl ?_;refine sA ?_;refine ALK.n (o3 (uX _) (Evs.cons Ev.a Evs.nil)) rfl ?_;refine sA ?_;refine ALK.n (o6 rfl rfl rfl rfl rfl rfl (Pc rfl (eB rfl) Cs.a rfl rfl (Pc rfl (eB rfl) Cs.a rfl rfl Parts.nil)) rfl) rfl ?_;(iterate 2 refine sA ?_);refine zN ?_)
 exact zT Tryz.results75
theorem note_fn : Fn CC 76 [] (txnV noteT) := by
 refine Fn.of_wp _ Tryz.func76 rfl (by kernel_rfl) Tryz.ntmps76 rfl ?_
 intro F hD hG
 (refine zR ?_;refine sA ?_;refine zN ?_)
 (refine zR ?_;refine ALK.n (o6 rfl rfl rfl rfl rfl rfl (Pc rfl (eB rfl) Cs.a rfl rfl Parts.nil) rfl) rfl ?_;refine ALK.n (o3 (value_fn _) (Evs.cons Ev.a Evs.nil)) rfl ?_;refine ALK.n (o3 (uX _) (Evs.cons Ev.a Evs.nil)) rfl ?_;refine sA ?_;refine ALK.n (o6 rfl rfl rfl rfl rfl rfl (Pc rfl (eB rfl) Cs.a rfl rfl Parts.nil) rfl) rfl ?_;(iterate 2 refine sA ?_);refine zN ?_)
 exact zT Tryz.results76
theorem mark_fn (n : Int) : Fn CC 77 [IV.int n] (txnV (markT n)) := by
 refine Fn.of_wp _ Tryz.func77 rfl (by kernel_rfl) Tryz.ntmps77 rfl ?_
 intro F hD hG
 (refine zR ?_;refine sA ?_;refine zN ?_)
 (refine zR ?_;refine sA ?_;refine ALK.n (o3 (uX _) (Evs.cons Ev.a Evs.nil)) rfl ?_;refine ALK.n (o3 (uX _) (Evs.cons Ev.a Evs.nil)) rfl ?_;refine sA ?_;refine ALK.n (o6 rfl rfl rfl rfl rfl rfl (Pc rfl (eB rfl) Cs.a rfl rfl Parts.nil) rfl) rfl ?_;(iterate 2 refine sA ?_);refine zN ?_)
 exact zT Tryz.results77
theorem three_fn : Fn CC 20 [] (planV threeP) := by
 refine Fn.of_wp _ Tryz.func20 rfl (by kernel_rfl) Tryz.ntmps20 rfl ?_
 intro F hD hG
 (refine zR ?_;refine sA ?_;refine zN ?_)
 (refine zR ?_;refine ALK.n (o3 (pay_fn _) (Evs.cons Ev.a Evs.nil)) rfl ?_;refine ALK.n (o3 (note_fn) Evs.nil) rfl ?_;refine ALK.n (o3 (mark_fn _) (Evs.cons Ev.a Evs.nil)) rfl ?_;refine ALK.n (o6 rfl rfl rfl rfl rfl rfl (Pc rfl (eB rfl) Cs.a rfl rfl (Pc rfl (eB rfl) Cs.a rfl rfl (Pc rfl (eB rfl) Cs.a rfl rfl Parts.nil))) rfl) rfl ?_;(iterate 2 refine sA ?_);refine zN ?_)
 exact zT Tryz.results20
def has (xs : List Int) (k : Int) : Bool := xs.any (fun q => k == q)
def byB (p : Int → Bool) (x y : Txn) : Bool := (keysOf x).any (fun k => p k && (has (keysOf y) k || has y.reads k)) || (keysOf y).any (fun k => p k && has x.reads k)
theorem By1_fn (k : Int) (f : FuncId) (caps : List IV) (b : Bool) (hf : Fn CC f ([IV.int k] ++ caps) (IV.bool b)) (ys : List Int) (y : Txn) : Fn CC 198 [IV.int k,IV.ptr [IV.fn f caps],IV.ptr [intsV ys],IV.ptr (cT y)] (IV.bool (b && (has ys k || has y.reads k))) := by
 refine Fn.of_wp _ Tryz.func198 rfl (by kernel_rfl) Tryz.ntmps198 rfl ?_
 intro F hD hG
 (refine zR ?_;refine sA ?_;refine zN ?_)
 (refine zR ?_;(iterate 2 refine sA ?_);refine ALK.n (oW (by first | exact Ev.base rfl | exact Ev.cnd rfl (by assumption)) hf (Evs.cons Ev.a Evs.nil)) rfl ?_;refine sA ?_;(iterate 2 refine gA ?_);refine ALK.g (fun hb => o3 (jJ _ _) (Evs.cons Ev.a (Evs.cons Ev.a Evs.nil))) rfl rfl rfl ?_;refine gA ?_;refine gF 0 ?_;(iterate 2 refine gA ?_);refine ALK.g2 (fun hb => o3 (jJ _ _) (Evs.cons Ev.a (Evs.cons Ev.a Evs.nil))) rfl rfl rfl ?_;refine ALK.g (fun hb => ue (eC rfl hb) rfl rfl (fun hb2 => by first | (rw [hb2];rfl) | (rw [hb,hb2];rfl) | simp_all [gd])) rfl rfl rfl ?_;(iterate 2 refine sA ?_);refine zN ?_)
 exact zT Tryz.results198
theorem By2_fn (k : Int) (f : FuncId) (caps : List IV) (b : Bool) (hf : Fn CC f ([IV.int k] ++ caps) (IV.bool b)) (x : Txn) : Fn CC 200 [IV.int k,IV.ptr [IV.fn f caps],IV.ptr (cT x)] (IV.bool (b && has x.reads k)) := by
 refine Fn.of_wp _ Tryz.func200 rfl (by kernel_rfl) Tryz.ntmps200 rfl ?_
 intro F hD hG
 (refine zR ?_;refine sA ?_;refine zN ?_)
 (refine zR ?_;(iterate 2 refine sA ?_);refine ALK.n (oW (by first | exact Ev.base rfl | exact Ev.cnd rfl (by assumption)) hf (Evs.cons Ev.a Evs.nil)) rfl ?_;refine sA ?_;refine gF 0 ?_;(iterate 2 refine gA ?_);refine ALK.g (fun hb => o3 (jJ _ _) (Evs.cons Ev.a (Evs.cons Ev.a Evs.nil))) rfl rfl rfl ?_;(iterate 2 refine sA ?_);refine zN ?_)
 exact zT Tryz.results200
theorem By_fn (x y : Txn) (f : FuncId) (caps : List IV) (p : Int → Bool) (hf : ∀ k,Fn CC f ([IV.int k] ++ caps) (IV.bool (p k))) (hx : TxnB x) (hy : TxnB y) : Fn CC 191 [txnV x,txnV y,IV.fn f caps] (IV.bool (byB p x y)) := by
 refine Fn.of_wp _ Tryz.func191 rfl (by kernel_rfl) Tryz.ntmps191 rfl ?_
 intro F hD hG
 (refine zR ?_;(iterate 4 refine sA ?_);refine zN ?_)
 (refine zW ?_;refine sA ?_;refine ALK.n (o3 (qx x hx) (Evs.cons Ev.a Evs.nil)) rfl ?_;refine sA ?_;refine ALK.n (o3 (qx y hy) (Evs.cons Ev.a Evs.nil)) rfl ?_;(iterate 3 refine sA ?_);refine zD ?_)
 refine WP.shift (Shift.frzBlk 8 rfl rfl rfl) ?_
 (refine zR ?_;refine sA ?_;refine ALK.n (jg (Evs.cons Ev.a (Evs.cons Ev.a (Evs.cons Ev.a Evs.nil)))) rfl ?_;refine ALK.n (o3 (jp (keysOf x) _ _ _ (fun k _ => By1_fn k f caps (p k) (hf k) (keysOf y) y)) (Evs.cons Ev.a (Evs.cons Ev.a Evs.nil))) rfl ?_;refine sA ?_;refine zN ?_)
 (refine zR ?_;(iterate 2 refine sA ?_);refine gA ?_;refine ALK.g (fun hb => jg (Evs.cons Ev.a (Evs.cons Ev.a Evs.nil))) rfl rfl rfl ?_;refine ALK.g (fun hb => o3 (jp (keysOf y) _ _ _ (fun k _ => By2_fn k f caps (p k) (hf k) x)) (Evs.cons Ev.a (Evs.cons Ev.a Evs.nil))) rfl rfl rfl ?_;(iterate 2 refine sA ?_);refine zN ?_)
 exact zT Tryz.results191
def rdF (st : List Int) (k : Int) : Int := st.getD k.toNat 0
def readsOf (st : List Int) (t : Txn) : List Int := t.reads.map (rdF st)
def putZ (st : List Int) (l : List (SetT × Int)) : List Int := l.foldl (fun s p => s.set p.1.key.toNat p.2) st
def applyS (st : List Int) (t : Txn) : List Int := putZ st (t.sets.zip (runSets t (readsOf st t)))
def applyR (st : List Int) (t : Txn) : Res := ⟨runDone t (readsOf st t),readsOf st t⟩
theorem yN (st : List Int) (l : List (SetT × Int)) : (putZ st l).length = st.length := by
 induction l generalizing st with
 | nil => rfl
 | cons p l ih => show (putZ (st.set p.1.key.toNat p.2) l).length = _;rw [ih,List.length_set]
theorem yg {α : Type} {l : List α} {k : Nat} {x : α} (h : l[k]? = some x) : l.take (k + 1) = l.take k ++ [x] := by
 rw [List.take_add_one,h];rfl
theorem putZ_push {st : List Int} {l : List (SetT × Int)} {k : Nat} {p : SetT × Int} (h : l[k]? = some p) : putZ st (l.take (k + 1)) = (putZ st (l.take k)).set p.1.key.toNat p.2 := by
 rw [yg h];unfold putZ;rw [List.foldl_append];rfl
theorem rdF_at {st : List Int} {q : Int} (h0 : 0 ≤ q) (h1 : q < st.length) : st[q.toNat]? = some (rdF st q) := by
 unfold rdF
 rw [List.getD_eq_getElem?_getD,List.getElem?_eq_getElem (by omega)];rfl
theorem uL {t : Txn} {xs : List Int} : (runSets t xs).length ≤ t.sets.length := by
 unfold runSets;split <;> simp
theorem store_Do_fn (st : List Int) (t : Txn) (hst : st.length = 8) (hb : TxnB t) (hok : checkTxn t = 0) :
 FnE CC 130 1 [.row 0 8,.im (txnV t)] [(0,.row 3 1 cI st)] (.im (resV (applyR st t))) [(0,.row 3 1 cI (applyS st t))] 1 [0] := by
 obtain ⟨hk1,hk2⟩ := yj hok
 have hsz := (y6 hok).1
 obtain ⟨hz1,hz2,hz3,hz4⟩ := hsz
 refine FnE.of_wp _ [(0,0)] Tryz.func130 rfl (by kernel_rfl) Tryz.ntmps130 rfl rfl rfl rfl rfl rfl rfl rfl rfl ?_
 intro F vs hD hvs
 obtain ⟨v0,v1,rfl⟩ := len2 hvs
 show WP _ _ _ _ _ ⟨[(0,.is v0 (.row 0 8)),(1,.im (txnV t))],[(0,.row 3 1 cI st)],1⟩
 (refine zR ?_;(iterate 2 refine sA ?_);refine zN ?_)
 (refine zR ?_;refine sA ?_;refine zN ?_)
 refine WP.shift (Shift.row0 5 3 1 cI (fun _ => rfl) rfl) ?_
 (refine zR ?_;refine fd 0 ?_;(iterate 3 refine sA ?_);refine zN ?_)
 refine zB ?_
 refine WP.loop (fun k : Nat => ⟨[(15,.im (IV.int k)),(13,.im (intsV t.reads)),(14,.im (IV.int t.reads.length)),(5,.row 1 k),(0,.is v0 (.row 0 8)),(3,.im (IV.ptr (cT t))),(4,.off 2 0)],[(0,.row 3 1 cI st),(1,.row 3 1 cI ((t.reads.take k).map (rdF st))),(2,.blk 163 [.im (IV.bool false),.im (IV.val (.slice none 0 0))])],3⟩) (fun k => k ≤ t.reads.length) (fun k => t.reads.length - k) 0 (Nat.zero_le _) (Shift.sub [(0,0),(1,2),(2,1)] rfl SubE.a (SubH.cons rfl rfl (ObLe.row rfl) (SubH.cons rfl rfl (ObLe.row (by simp)) (SubH.cons rfl rfl (ObLe.blk SLes.a) SubH.nil)))) ?_
 rintro k hk
 (refine zR ?_;refine sA ?_;refine zN ?_)
 refine zC (fun h => ?_) (fun h => ?_)
 ·refine zS ?_
  have hlt : k < t.reads.length := by simpa using h
  obtain ⟨q,hq⟩ := oc hlt
  obtain ⟨hq0,hq8⟩ := hk1 q (List.mem_of_getElem? hq)
  have hy := rdF_at (st := st) hq0 (by omega)
  refine zB ?_
  (refine zR ?_;(iterate 3 refine sA ?_);refine zN ?_)
  (refine zR ?_;(iterate 5 refine sI ?_);refine ALK.n (o6 rfl rfl rfl rfl rfl rfl (Pc rfl (eB rfl) Cs.a rfl rfl Parts.nil) rfl) rfl ?_;refine ALK.e (o8 (b := 8) [rdF st q] rfl rfl rfl rfl rfl (eB rfl) (eB rfl) rfl rfl (by simp;omega) rfl) rfl rfl ?_;refine sI ?_;refine zN ?_)
  (refine zR ?_;(iterate 2 refine sA ?_);refine zN ?_)
  show ∃ _,_ ∧ _ ∧ _
  have hn : (t.reads.take (k + 1)).map (rdF st) = (t.reads.take k).map (rdF st) ++ [rdF st q] := by rw [yg hq,List.map_append];rfl
  have hl : ((t.reads.take k).map (rdF st)).length + [rdF st q].length = k + 1 := by simp;omega
  exact ⟨k + 1,by omega,by omega,Shift.sub [(0,0),(1,3),(2,2)] rfl (by repeat (first | exact SubE.nil | refine SubE.cons rfl (by first | exact SLe.row rfl hl | exact SLe.is (SLe.row rfl rfl) | exact SLe.a) ?_)) (SubH.cons rfl rfl (ObLe.row rfl) (SubH.cons rfl rfl (ObLe.row hn.symm) (SubH.cons rfl rfl (ObLe.blk SLes.a) SubH.nil)))⟩
 ·refine zE ?_
  have hk2 : k = t.reads.length := by simp at h;omega
  subst hk2
  rw [List.take_length]
  refine WP.shift (Shift.frzRow 5 rfl rfl) ?_
  (refine zR ?_;(iterate 2 refine sA ?_);refine ALK.n (o3 (txn_Do_fn t (readsOf st t) hb hok (by simp [readsOf])) (Evs.cons Ev.a (Evs.cons Ev.a Evs.nil))) rfl ?_;(iterate 6 refine sA ?_);refine zN ?_)
  refine WP.shift (Shift.frzBlk 8 rfl rfl rfl) ?_
  have hle := uL (t := t) (xs := readsOf st t)
  obtain ⟨l,hl⟩ : ∃ l,l = runSets t (readsOf st t) := ⟨_,rfl⟩
  rw [← hl] at hle ⊢
  (refine zR ?_;(iterate 3 refine sA ?_);refine zN ?_)
  refine zB ?_
  refine WP.loop (fun j : Nat => ⟨[(35,.im (IV.int j)),(33,.im (intsV l)),(34,.im (IV.int l.length)),(0,.is v0 (.row 0 8)),(3,.im (IV.ptr (cT t))),(4,.off 2 0),(8,.im (IV.ptr (cR (applyR st t))))],[(0,.row 3 1 cI (putZ st ((t.sets.zip l).take j))),(2,.blk 163 [.im (IV.bool false),.im (IV.val (.slice none 0 0))])],3⟩) (fun j => j ≤ l.length) (fun j => l.length - j) 0 (Nat.zero_le _) (Shift.sub [(0,0),(2,2)] rfl SubE.a (SubH.cons rfl rfl (ObLe.row rfl) (SubH.cons rfl rfl (ObLe.blk SLes.a) SubH.nil))) ?_
  rintro j hj
  (refine zR ?_;refine sA ?_;refine zN ?_)
  refine zC (fun h => ?_) (fun h => ?_)
  ·refine zS ?_
   have hjl : j < l.length := by simpa using h
   obtain ⟨n,hn⟩ := oc hjl
   obtain ⟨s,hs⟩ := oc (xs := t.sets) (k := j) (by omega)
   obtain ⟨hs0,hs8⟩ := hk2 s.key (List.mem_map.2 ⟨s,List.mem_of_getElem? hs,rfl⟩)
   have hpl : s.key.toNat < (putZ st ((t.sets.zip l).take j)).length := by rw [yN];omega
   have hz : (t.sets.zip l)[j]? = some (s,n) := by rw [List.getElem?_zip_eq_some];exact ⟨hs,hn⟩
   refine zB ?_
   (refine zR ?_;(iterate 5 refine sA ?_);refine zN ?_)
   (refine zR ?_;refine sI ?_;refine fI 2 ?_;(iterate 3 refine sI ?_);refine fI 0 ?_;(iterate 4 refine sI ?_);refine zN ?_)
   (refine zR ?_;(iterate 2 refine sA ?_);refine zN ?_)
   show ∃ _,_ ∧ _ ∧ _
   exact ⟨j + 1,by omega,by omega,Shift.sub [(0,0),(2,2)] rfl SubE.a (SubH.cons rfl rfl (ObLe.row (putZ_push hz).symm) (SubH.cons rfl rfl (ObLe.blk SLes.a) SubH.nil))⟩
  ·refine zE ?_
   have hjl : (t.sets.zip l).length ≤ j := by simp at h;rw [List.length_zip];omega
   rw [List.take_of_length_le hjl]
   (refine zR ?_;(iterate 2 refine sA ?_);refine zN ?_)
   rw [hl]
   exact zT Tryz.results130
abbrev ressV (l : List Res) : IV := IV.view 2 cR l
def serE (st : List Int) (l : List Txn) : Int := if st.length = 8 then checkTxns l else 1
def serS (st : List Int) (l : List Txn) : List Int := l.foldl applyS st
def serR : List Int → List Txn → List Res
 | _,[] => []
 | st,t :: l => applyR st t :: serR (applyS st t) l
def serL (st : List Int) (l : List Txn) : List Int := if serE st l = 0 then serS st l else []
def serV (st : List Int) (l : List Txn) : List Res := if serE st l = 0 then serR st l else []
theorem applyS_len (st : List Int) (t : Txn) : (applyS st t).length = st.length := yN _ _
theorem serS_len (st : List Int) (l : List Txn) : (serS st l).length = st.length := by
 induction l generalizing st with
 | nil => rfl
 | cons t l ih => show (serS (applyS st t) l).length = _;rw [ih,applyS_len]
theorem serS_snoc (st : List Int) (l : List Txn) (t : Txn) : serS st (l ++ [t]) = applyS (serS st l) t := by unfold serS;rw [List.foldl_append];rfl
theorem serR_append (st : List Int) (l m : List Txn) : serR st (l ++ m) = serR st l ++ serR (serS st l) m := by
 induction l generalizing st with
 | nil => rfl
 | cons t l ih => show applyR st t :: serR (applyS st t) (l ++ m) = _;rw [ih];rfl
theorem qc (st : List Int) (l : List Txn) : (serR st l).length = l.length := by
 induction l generalizing st with
 | nil => rfl
 | cons t l ih => show (serR (applyS st t) l).length + 1 = _;rw [ih];rfl
theorem qF (xs : List Int) (hn : xs.length ≤ 8796093022208) : FnRow CC 38 [intsV xs] 3 1 cI xs := by
 refine ⟨⟨⟨_,Tryz.func38,rfl,by kernel_rfl⟩,fun _ => rfl⟩,fun μ w vs hvs ha => ?_⟩
 obtain ⟨a,vs1,rfl,h1,rfl⟩ := hvs
 obtain ⟨A,c,rfl,_,_,hrd⟩ := qp ha (enc' := encI) (fun _ => rfl) (fun _ => by simp [encI]) h1
 refine (qT A xs.length c xs w hrd hn).mono ?_
 rintro e w' ⟨v,rfl,ho,hb⟩
 have hiv : ∀ xs : List Int,IVs μ (xs.flatMap cI) (xs.flatMap encI) := fun xs => by
  induction xs with
  | nil => rfl
  | cons x xs ih => exact ⟨_,_,rfl,rfl,ih⟩
 refine ⟨v,μ,xs.flatMap encI,rfl,ho,hiv xs,fun u hu => ?_,fun g hg => ?_,Stp.of_below ha hb⟩
 ·obtain ⟨x,_,hx⟩ := List.mem_flatMap.1 hu
  simp [encI] at hx;subst hx;rfl
 ·cases e : μ g with
  | none => rfl
  | some c =>
   have h1 := ha.lt (b := g) (by rw [e];simp)
   have h2 := (World.ownsRow.lt ho g hg).1
   omega
theorem yP (st : List Int) : Fn CC 37 [intsV st] (IV.int (if st.length = 8 then 0 else 1)) := by
 refine Fn.of_wp _ Tryz.func37 rfl (by kernel_rfl) Tryz.ntmps37 rfl ?_
 intro F hD hG
 refine WP.len 0 rfl (fun hl1 => ?_)
 (refine zR ?_;refine sA ?_;refine zN ?_)
 (refine zR ?_;(iterate 3 refine sA ?_);refine zN ?_)
 refine zC (fun h => ?_) (fun h => ?_)
 ·(refine zR ?_;refine sA ?_;refine zN ?_)
  have hr : (if st.length = 8 then (0 : Int) else 1) = 1 := by rw [if_neg (by simp at h;omega)]
  rw [hr]
  exact zT Tryz.results37
 refine zS ?_
 (refine zR ?_;refine sA ?_;refine zN ?_)
 have hr : (if st.length = 8 then (0 : Int) else 1) = 0 := by rw [if_pos (by simp at h;omega)]
 rw [hr]
 exact zT Tryz.results37
theorem vq (st : List Int) : Fn CC 107 [intsV st] (IV.bool (decide (st.length = 8))) := by
 refine Fn.of_wp _ Tryz.func107 rfl (by kernel_rfl) Tryz.ntmps107 rfl ?_
 intro F hD hG
 (refine zR ?_;refine sA ?_;refine zN ?_)
 (refine zR ?_;(iterate 4 refine sA ?_);refine zN ?_)
 have hr : decide (st.length = 8) = ((st.length : Int) == 8) := by
  rw [Bool.eq_iff_iff];simp;omega
 rw [hr]
 exact zT Tryz.results107
end Go.Proofs.YtjgmbgfcffnanaaGreatDoor
