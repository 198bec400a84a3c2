/- Package desk: a line of words. Package desk: a line of three words. Package desk: a line of a word and two numbers. -/
import Derived.Test.YtjgmbgfcffnanaaGreatDoorZ38
set_option maxRecDepth 100000
set_option maxHeartbeats 4000000
namespace Go.Proofs.YtjgmbgfcffnanaaGreatDoor
open Go.RowKit
theorem uP (w : List UInt8) : idxP (fun y => decide (w = y)) [[112,117,116],[114,101,97,100],[119,114,105,116,101]] = idxW w := by
 unfold idxW sPut sRead sWrite
 by_cases h1 : w = [112,117,116]
 ·subst h1;decide
 by_cases h2 : w = [114,101,97,100]
 ·subst h2;decide
 by_cases h3 : w = [119,114,105,116,101]
 ·subst h3;decide
 ·rw [if_neg h1,if_neg h2,if_neg h3]
  refine qH fun y hy => ?_
  simp only [List.mem_cons,List.not_mem_nil,or_false] at hy
  rcases hy with rfl | rfl | rfl <;> simpa using by assumption
theorem yR (w : List UInt8) : idxW w = -1 ∨ idxW w = 0 ∨ idxW w = 1 ∨ idxW w = 2 := by
 unfold idxW
 split;· exact .inr (.inl rfl)
 split;· exact .inr (.inr (.inl rfl))
 split;· exact .inr (.inr (.inr rfl))
 exact .inl rfl
def LineR (M : Mem) (p : Plan) (d : Dk) (l : List UInt8) : Prop := ∀ c0 c1 c2 c3 c,Tryz.f13.body = some (.seq c0 (.seq c1 (.seq (.seq c2 (.block 0 c3)) c))) → ∀ (F : Fx) (v0 v4 : Value),WP CC F 136 c (LineQ p d l v0 v4) ⟨[(1,.im (IV.str l)),(ghT,.im (IV.gh M)),(0,.is v0 (.off 0 0)),(4,.is v4 (.off 1 0))],[(1,imB 9 [IV.str []]),(0,imB 40 (cDk p d))],2⟩
theorem line_pre {M : Mem} (p : Plan) (d : Dk) (l : List UInt8) (n3 : ¬ l = [99,97,110]) (n5 : ¬ l = [115,116,111,114,101]) (n13 : ¬ l = [114,101,115,116]) (n16 : ¬ l = [97,117,100,105,116]) (hR : LineR M p d l) : LineB M p d l := by
 intro c0 c1 c hc F v0 v4
 have h1 : some (Code.seq _ (Code.seq _ (Code.seq (Code.seq _ (Code.block 0 _)) _))) = some (Code.seq c0 (Code.seq c1 c)) := hc
 clear hc
 injection h1 with h1
 injection h1 with h0 h1
 clear h0
 injection h1 with h0 h1
 clear h0
 subst h1
 refine WP.shift (Shift.gh 1 rfl (by decide)) ?_
 (refine zR ?_;refine sI ?_;refine zN ?_)
 refine zB ?_
 (refine zR ?_;refine ALK.n (oa (c := false) (eB rfl) (eB rfl) (by simp [cmpS,n3])) rfl ?_;refine sI ?_;refine zN ?_)
 refine zC (fun h => ?_) (fun h => ?_)
 ·cases h
 clear h
 (refine zR ?_;refine ALK.n (oa (c := false) (eB rfl) (eB rfl) (by simp [cmpS,n5])) rfl ?_;refine sI ?_;refine zN ?_)
 refine zC (fun h => ?_) (fun h => ?_)
 ·cases h
 clear h
 (refine zR ?_;refine ALK.n (oa (c := false) (eB rfl) (eB rfl) (by simp [cmpS,n13])) rfl ?_;refine sI ?_;refine zN ?_)
 refine zC (fun h => ?_) (fun h => ?_)
 ·cases h
 clear h
 (refine zR ?_;refine ALK.n (oa (c := false) (eB rfl) (eB rfl) (by simp [cmpS,n16])) rfl ?_;refine sI ?_;refine zN ?_)
 refine zC (fun h => ?_) (fun h => ?_)
 ·cases h
 ·refine zS ?_
  exact WP.shift (Shift.sub [(0,0),(1,1)] rfl SubE.a (SubH.cons rfl rfl (ObLe.blk SLes.a) (SubH.cons rfl rfl (ObLe.blk (SLes.ims _)) SubH.nil))) (hR _ _ _ _ _ rfl F v0 v4)
theorem line_other (p : Plan) (d : Dk) (l : List UInt8) (n3 : ¬ l = [99,97,110]) (n5 : ¬ l = [115,116,111,114,101]) (n13 : ¬ l = [114,101,115,116]) (n16 : ¬ l = [97,117,100,105,116]) : lineS p d l = splitD p d (splitS l) := by
 unfold lineS
 rw [if_neg (show ¬ l = sCan from n3),if_neg (show ¬ l = sStore from n5),if_neg (show ¬ l = sRest from n13),if_neg (show ¬ l = sAudit from n16)]
section
variable {M : Mem} (hM : GlobM M) (p : Plan) (d : Dk) (l : List UInt8) (hl : l.length ≤ 4096)
include hM hl
theorem line_few (n3 : ¬ l = [99,97,110]) (n5 : ¬ l = [115,116,111,114,101]) (n13 : ¬ l = [114,101,115,116]) (n16 : ¬ l = [97,117,100,105,116]) (h3 : (splitS l).length ≠ 3) : LineR M p d l := by
 have hr : lineS p d l = (errT 1,d) := by
  rw [line_other p d l n3 n5 n13 n16]
  unfold splitD
  split
  ·rename_i w a b e;rw [e] at h3;exact absurd rfl h3
  ·rfl
 intro c0 c1 c2 c3 c hc F v0 v4
 have h1 : some (Code.seq _ (Code.seq _ (Code.seq (Code.seq _ (Code.block 0 _)) _))) = some (Code.seq c0 (Code.seq c1 (Code.seq (Code.seq c2 (Code.block 0 c3)) c))) := hc
 clear hc
 injection h1 with h1
 injection h1 with _ h1
 injection h1 with _ h1
 injection h1 with _ h1
 subst h1
 (refine zR ?_;refine sI ?_;refine ALK.n (o3 (u6 hM l (by omega)) (Evs.cons (Ev.wth (eB rfl) rfl) (Evs.cons (eB rfl) Evs.nil))) rfl ?_;refine sI ?_;refine zN ?_)
 ((repeat apply WP.seq);apply WP.xreg;refine LX.n (o4 (eB rfl)) rfl ?_;refine LX.n OpN.ln rfl ?_;refine LX.n OpN.cm rfl ?_;refine LX.p (og [] (qm 1) (EvsS.cons (Ev.of (eB rfl) (ImOf.im (ILe.bool (decide_eq_false (by omega))))) (EvsS.cons (eB rfl) EvsS.nil)) rfl rfl rfl HIn.a) ?_)
 exact ⟨1,rfl,by omega,hr,rfl,rfl,rfl,rfl⟩
theorem line_word {w a b : List UInt8} (hs : splitS l = [w,a,b]) (hi : idxW w = -1) : LineR M p d l := by
 have hr : lineS p d l = (errT 1,d) := by
  rw [yb hs]
  unfold wordsS
  rw [if_pos hi]
 have hX := ym [[112,117,116],[114,101,97,100],[119,114,105,116,101]] w
 rw [uP w,hi] at hX
 intro c0 c1 c2 c3 c hc F v0 v4
 have h1 : some (Code.seq _ (Code.seq _ (Code.seq (Code.seq _ (Code.block 0 _)) _))) = some (Code.seq c0 (Code.seq c1 (Code.seq (Code.seq c2 (Code.block 0 c3)) c))) := hc
 clear hc
 injection h1 with h1
 injection h1 with _ h1
 injection h1 with _ h1
 injection h1 with _ h1
 subst h1
 (refine zR ?_;refine sI ?_;refine ALK.n (o3 (u6 hM l (by omega)) (Evs.cons (Ev.wth (eB rfl) rfl) (Evs.cons (eB rfl) Evs.nil))) rfl ?_;refine sI ?_;refine zN ?_)
 rw [hs]
 have x0 : ([w,a,b])[((0 : Int)).toNat]? = some w := rfl
 have x1 : ([w,a,b])[((1 : Int)).toNat]? = some a := rfl
 have x2 : ([w,a,b])[((2 : Int)).toNat]? = some b := rfl
 (refine zR ?_;(iterate 3 refine sI ?_);refine ALK.n (o3 (oI 1) (Evs.cons Ev.a (Evs.cons Ev.a Evs.nil))) rfl ?_;refine zN ?_)
 (refine zR ?_;refine ALK.n (o6 rfl rfl rfl rfl rfl rfl (Pc rfl (eB rfl) Cs.a rfl rfl (Pc rfl (eB rfl) Cs.a rfl rfl (Pc rfl (eB rfl) Cs.a rfl rfl Parts.nil))) rfl) rfl ?_;refine sI ?_;refine ALK.n (o7 rfl (eB rfl) (eB rfl) (by omega) x0) rfl ?_;refine sI ?_;refine ALK.n (o3 hX (Evs.cons (Ev.of (eB rfl) (ImOf.im (ILe.view rfl))) (Evs.cons (eB rfl) Evs.nil))) rfl ?_;refine sI ?_;refine zN ?_)
 ((repeat apply WP.seq);apply WP.xreg;refine LX.n (o4 (eB rfl)) rfl ?_;refine LX.n OpN.cm rfl ?_;refine LX.p (og [] (qm 1) EvsS.a rfl rfl rfl HIn.a) ?_)
 exact ⟨1,rfl,by omega,hr,rfl,rfl,rfl,rfl⟩
end
theorem ot : ∀ (l : List UInt8),∀ x ∈ splitS l,x.length ≤ l.length
 | [],x,h => by simp only [splitS,List.mem_singleton] at h;subst h;exact Nat.le_refl _
 | b :: r,x,h => by
  simp only [splitS] at h
  split at h
  ·rcases List.mem_cons.1 h with rfl | h
   ·exact Nat.zero_le _
   ·have := ot r x h
    rw [List.length_cons];omega
  ·split at h
   ·rw [List.mem_singleton] at h;subst h;rw [List.length_cons,List.length_cons];simp
   ·rename_i y ys e
    rcases List.mem_cons.1 h with rfl | h
    ·have := ot r y (by rw [e];simp)
     rw [List.length_cons,List.length_cons];omega
    ·have := ot r x (by rw [e];exact List.mem_cons_of_mem _ h)
     rw [List.length_cons];omega
theorem uA {M : Mem} (hM : GlobM M) (s : List UInt8) (hs : s.length ≤ 100000) {n : Int} (h : numS s = some n) : Fn CC 53 [IV.wth M (IV.str s)] (IV.int n) :=
 Fn.of_new (args := [IV.wth M (IV.str s)]) ((num_x hM s hs).ok (by rw [h];rfl)) .im
section
variable {M : Mem} (hM : GlobM M) (p : Plan) (d : Dk) (l : List UInt8) (hl : l.length ≤ 4096)
include hM hl
theorem line_a {w a b : List UInt8} (hs : splitS l = [w,a,b]) (hi : idxW w ≠ -1) (hx : numS a = none) : LineR M p d l := by
 have hr : lineS p d l = (errT 1,d) := by rw [yb hs];exact uH hi (.inl hx)
 have hX := ym [[112,117,116],[114,101,97,100],[119,114,105,116,101]] w
 rw [uP w] at hX
 have ha : a.length ≤ 100000 := by have := ot l a (by rw [hs];simp);omega
 have hb : b.length ≤ 100000 := by have := ot l b (by rw [hs];simp);omega
 intro c0 c1 c2 c3 c hc F v0 v4
 have h1 : some (Code.seq _ (Code.seq _ (Code.seq (Code.seq _ (Code.block 0 _)) _))) = some (Code.seq c0 (Code.seq c1 (Code.seq (Code.seq c2 (Code.block 0 c3)) c))) := hc
 clear hc
 injection h1 with h1
 injection h1 with _ h1
 injection h1 with _ h1
 injection h1 with _ h1
 subst h1
 (refine zR ?_;refine sI ?_;refine ALK.n (o3 (u6 hM l (by omega)) (Evs.cons (Ev.wth (eB rfl) rfl) (Evs.cons (eB rfl) Evs.nil))) rfl ?_;refine sI ?_;refine zN ?_)
 rw [hs]
 have x0 : ([w,a,b])[((0 : Int)).toNat]? = some w := rfl
 have x1 : ([w,a,b])[((1 : Int)).toNat]? = some a := rfl
 have x2 : ([w,a,b])[((2 : Int)).toNat]? = some b := rfl
 (refine zR ?_;(iterate 3 refine sI ?_);refine ALK.n (o3 (oI 1) (Evs.cons Ev.a (Evs.cons Ev.a Evs.nil))) rfl ?_;refine zN ?_)
 (refine zR ?_;refine ALK.n (o6 rfl rfl rfl rfl rfl rfl (Pc rfl (eB rfl) Cs.a rfl rfl (Pc rfl (eB rfl) Cs.a rfl rfl (Pc rfl (eB rfl) Cs.a rfl rfl Parts.nil))) rfl) rfl ?_;refine sI ?_;refine ALK.n (o7 rfl (eB rfl) (eB rfl) (by omega) x0) rfl ?_;refine sI ?_;refine ALK.n (o3 hX (Evs.cons (Ev.of (eB rfl) (ImOf.im (ILe.view rfl))) (Evs.cons (eB rfl) Evs.nil))) rfl ?_;refine sI ?_;refine zN ?_)
 have hge : decide (idxW w ≥ 0) = true := by have := yR w;simp;omega
 (refine zR ?_;(iterate 2 refine sI ?_);refine ALK.n (o3 (oI 1) (Evs.cons (Ev.of (eB rfl) (ImOf.im (ILe.bool hge))) (Evs.cons (eB rfl) Evs.nil))) rfl ?_;refine zN ?_)
 ((repeat apply WP.seq);refine WP.drawM 3 _ (.const (.bool true)) [3,7,8,9] ([(116,.im (IV.str a)),(ghT,.im (IV.gh M)),(0,.is v0 (.off 0 0)),(4,.is v4 (.off 1 0))]) rfl ?_;refine sI ?_;refine ALK.n (o7 rfl (eB rfl) (eB rfl) (by omega) x1) rfl ?_;refine sI ?_;refine nM rfl rfl ?_;refine sI ?_;refine ALK.n (o7 rfl (eB rfl) (eB rfl) (by omega) x2) rfl ?_;refine sI ?_;refine nM rfl rfl ?_;refine nM rfl rfl ?_;refine nM rfl rfl ?_;refine ALK.nilM (by kernel_rfl) ⟨by repeat (first | exact SubL.nil | refine SubL.cons rfl ?_),_,_,_,og [] ((num_x hM a ha).no (by rw [hx];rfl)) (EvsS.cons (Ev.wth (eB rfl) rfl) EvsS.nil) rfl rfl rfl HIn.a,?_⟩)
 exact ⟨1,rfl,by omega,hr,rfl,rfl,rfl,rfl⟩
theorem line_b {w a b : List UInt8} (hs : splitS l = [w,a,b]) (hi : idxW w ≠ -1) {x : Int} (hx : numS a = some x) (hy : numS b = none) : LineR M p d l := by
 have hr : lineS p d l = (errT 1,d) := by rw [yb hs];exact uH hi (.inr hy)
 have hX := ym [[112,117,116],[114,101,97,100],[119,114,105,116,101]] w
 rw [uP w] at hX
 have ha : a.length ≤ 100000 := by have := ot l a (by rw [hs];simp);omega
 have hb : b.length ≤ 100000 := by have := ot l b (by rw [hs];simp);omega
 intro c0 c1 c2 c3 c hc F v0 v4
 have h1 : some (Code.seq _ (Code.seq _ (Code.seq (Code.seq _ (Code.block 0 _)) _))) = some (Code.seq c0 (Code.seq c1 (Code.seq (Code.seq c2 (Code.block 0 c3)) c))) := hc
 clear hc
 injection h1 with h1
 injection h1 with _ h1
 injection h1 with _ h1
 injection h1 with _ h1
 subst h1
 (refine zR ?_;refine sI ?_;refine ALK.n (o3 (u6 hM l (by omega)) (Evs.cons (Ev.wth (eB rfl) rfl) (Evs.cons (eB rfl) Evs.nil))) rfl ?_;refine sI ?_;refine zN ?_)
 rw [hs]
 have x0 : ([w,a,b])[((0 : Int)).toNat]? = some w := rfl
 have x1 : ([w,a,b])[((1 : Int)).toNat]? = some a := rfl
 have x2 : ([w,a,b])[((2 : Int)).toNat]? = some b := rfl
 (refine zR ?_;(iterate 3 refine sI ?_);refine ALK.n (o3 (oI 1) (Evs.cons Ev.a (Evs.cons Ev.a Evs.nil))) rfl ?_;refine zN ?_)
 (refine zR ?_;refine ALK.n (o6 rfl rfl rfl rfl rfl rfl (Pc rfl (eB rfl) Cs.a rfl rfl (Pc rfl (eB rfl) Cs.a rfl rfl (Pc rfl (eB rfl) Cs.a rfl rfl Parts.nil))) rfl) rfl ?_;refine sI ?_;refine ALK.n (o7 rfl (eB rfl) (eB rfl) (by omega) x0) rfl ?_;refine sI ?_;refine ALK.n (o3 hX (Evs.cons (Ev.of (eB rfl) (ImOf.im (ILe.view rfl))) (Evs.cons (eB rfl) Evs.nil))) rfl ?_;refine sI ?_;refine zN ?_)
 have hge : decide (idxW w ≥ 0) = true := by have := yR w;simp;omega
 (refine zR ?_;(iterate 2 refine sI ?_);refine ALK.n (o3 (oI 1) (Evs.cons (Ev.of (eB rfl) (ImOf.im (ILe.bool hge))) (Evs.cons (eB rfl) Evs.nil))) rfl ?_;refine zN ?_)
 ((repeat apply WP.seq);refine WP.drawM 7 _ (.const (.bool true)) [7,8,9] ([(120,.im (IV.str b)),(ghT,.im (IV.gh M)),(0,.is v0 (.off 0 0)),(4,.is v4 (.off 1 0))]) rfl ?_;refine sI ?_;refine ALK.n (o7 rfl (eB rfl) (eB rfl) (by omega) x1) rfl ?_;refine sI ?_;refine ALK.n (o3 (uA hM a ha hx) (Evs.cons (Ev.wth (eB rfl) rfl) Evs.nil)) rfl ?_;refine sI ?_;refine ALK.n (o7 rfl (eB rfl) (eB rfl) (by omega) x2) rfl ?_;refine sI ?_;refine nM rfl rfl ?_;refine nM rfl rfl ?_;refine nM rfl rfl ?_;refine ALK.nilM (by kernel_rfl) ⟨by repeat (first | exact SubL.nil | refine SubL.cons rfl ?_),_,_,_,og [] ((num_x hM b hb).no (by rw [hy];rfl)) (EvsS.cons (Ev.wth (eB rfl) rfl) EvsS.nil) rfl rfl rfl HIn.a,?_⟩)
 exact ⟨1,rfl,by omega,hr,rfl,rfl,rfl,rfl⟩
end
section
variable {M : Mem} (hM : GlobM M) (p : Plan) (d : Dk) (l : List UInt8) (g : Good p d) (hB : TxsB p.txns) (hl : l.length ≤ 4096)
include hM g hB hl
omit g hB in
theorem line_neg {w a b : List UInt8} (hs : splitS l = [w,a,b]) {x y : Int} (hx : numS a = some x) (hy : numS b = some y) (hi : idxW w ≠ -1) (h0 : x < 0) : LineR M p d l := by
 have hr : lineS p d l = (errT 1,d) := by rw [yb hs,yk hi hx hy];unfold actS;rw [if_pos h0]
 have hX := ym [[112,117,116],[114,101,97,100],[119,114,105,116,101]] w
 rw [uP w] at hX
 have ha : a.length ≤ 100000 := by have := ot l a (by rw [hs];simp);omega
 have hb : b.length ≤ 100000 := by have := ot l b (by rw [hs];simp);omega
 intro c0 c1 c2 c3 c hc F v0 v4
 have h1 : some (Code.seq _ (Code.seq _ (Code.seq (Code.seq _ (Code.block 0 _)) _))) = some (Code.seq c0 (Code.seq c1 (Code.seq (Code.seq c2 (Code.block 0 c3)) c))) := hc
 clear hc
 injection h1 with h1
 injection h1 with _ h1
 injection h1 with _ h1
 injection h1 with _ h1
 subst h1
 (refine zR ?_;refine sI ?_;refine ALK.n (o3 (u6 hM l (by omega)) (Evs.cons (Ev.wth (eB rfl) rfl) (Evs.cons (eB rfl) Evs.nil))) rfl ?_;refine sI ?_;refine zN ?_)
 rw [hs]
 have x0 : ([w,a,b])[((0 : Int)).toNat]? = some w := rfl
 have x1 : ([w,a,b])[((1 : Int)).toNat]? = some a := rfl
 have x2 : ([w,a,b])[((2 : Int)).toNat]? = some b := rfl
 (refine zR ?_;(iterate 3 refine sI ?_);refine ALK.n (o3 (oI 1) (Evs.cons Ev.a (Evs.cons Ev.a Evs.nil))) rfl ?_;refine zN ?_)
 (refine zR ?_;refine ALK.n (o6 rfl rfl rfl rfl rfl rfl (Pc rfl (eB rfl) Cs.a rfl rfl (Pc rfl (eB rfl) Cs.a rfl rfl (Pc rfl (eB rfl) Cs.a rfl rfl Parts.nil))) rfl) rfl ?_;refine sI ?_;refine ALK.n (o7 rfl (eB rfl) (eB rfl) (by omega) x0) rfl ?_;refine sI ?_;refine ALK.n (o3 hX (Evs.cons (Ev.of (eB rfl) (ImOf.im (ILe.view rfl))) (Evs.cons (eB rfl) Evs.nil))) rfl ?_;refine sI ?_;refine zN ?_)
 have hge : decide (idxW w ≥ 0) = true := by have := yR w;simp;omega
 (refine zR ?_;(iterate 2 refine sI ?_);refine ALK.n (o3 (oI 1) (Evs.cons (Ev.of (eB rfl) (ImOf.im (ILe.bool hge))) (Evs.cons (eB rfl) Evs.nil))) rfl ?_;refine zN ?_)
 (refine zW ?_;refine sI ?_;refine ALK.n (o7 rfl (eB rfl) (eB rfl) (by omega) x1) rfl ?_;refine sI ?_;refine ALK.n (o3 (uA hM a ha hx) (Evs.cons (Ev.wth (eB rfl) rfl) Evs.nil)) rfl ?_;refine sI ?_;refine ALK.n (o7 rfl (eB rfl) (eB rfl) (by omega) x2) rfl ?_;refine sI ?_;refine ALK.n (o3 (uA hM b hb hy) (Evs.cons (Ev.wth (eB rfl) rfl) Evs.nil)) rfl ?_;(iterate 2 refine sI ?_);refine zD ?_)
 ((repeat apply WP.seq);apply WP.xreg;refine LX.n (o4 (eB rfl)) rfl ?_;refine LX.n OpN.cm rfl ?_;refine LX.p (og [] (qm 1) (EvsS.cons (Ev.of (eB rfl) (ImOf.im (ILe.bool (decide_eq_false (by omega))))) (EvsS.cons (eB rfl) EvsS.nil)) rfl rfl rfl HIn.a) ?_)
 exact ⟨1,rfl,by omega,hr,rfl,rfl,rfl,rfl⟩
theorem line_put {w a b : List UInt8} (hs : splitS l = [w,a,b]) {x y : Int} (hx : numS a = some x) (hy : numS b = some y) (hi : idxW w = 0) (h0 : ¬ x < 0) (h8 : x < 8) : LineR M p d l := by
 have hr : lineS p d l = (sOk,putD p d x.toNat y) := by rw [yb hs,yk (by omega) hx hy];unfold actS;rw [if_neg h0,if_pos hi,if_pos h8]
 have hX := ym [[112,117,116],[114,101,97,100],[119,114,105,116,101]] w
 rw [uP w] at hX
 have ha : a.length ≤ 100000 := by have := ot l a (by rw [hs];simp);omega
 have hb : b.length ≤ 100000 := by have := ot l b (by rw [hs];simp);omega
 intro c0 c1 c2 c3 c hc F v0 v4
 have h1 : some (Code.seq _ (Code.seq _ (Code.seq (Code.seq _ (Code.block 0 _)) _))) = some (Code.seq c0 (Code.seq c1 (Code.seq (Code.seq c2 (Code.block 0 c3)) c))) := hc
 clear hc
 injection h1 with h1
 injection h1 with _ h1
 injection h1 with _ h1
 injection h1 with _ h1
 subst h1
 (refine zR ?_;refine sI ?_;refine ALK.n (o3 (u6 hM l (by omega)) (Evs.cons (Ev.wth (eB rfl) rfl) (Evs.cons (eB rfl) Evs.nil))) rfl ?_;refine sI ?_;refine zN ?_)
 rw [hs]
 have x0 : ([w,a,b])[((0 : Int)).toNat]? = some w := rfl
 have x1 : ([w,a,b])[((1 : Int)).toNat]? = some a := rfl
 have x2 : ([w,a,b])[((2 : Int)).toNat]? = some b := rfl
 (refine zR ?_;(iterate 3 refine sI ?_);refine ALK.n (o3 (oI 1) (Evs.cons Ev.a (Evs.cons Ev.a Evs.nil))) rfl ?_;refine zN ?_)
 (refine zR ?_;refine ALK.n (o6 rfl rfl rfl rfl rfl rfl (Pc rfl (eB rfl) Cs.a rfl rfl (Pc rfl (eB rfl) Cs.a rfl rfl (Pc rfl (eB rfl) Cs.a rfl rfl Parts.nil))) rfl) rfl ?_;refine sI ?_;refine ALK.n (o7 rfl (eB rfl) (eB rfl) (by omega) x0) rfl ?_;refine sI ?_;refine ALK.n (o3 hX (Evs.cons (Ev.of (eB rfl) (ImOf.im (ILe.view rfl))) (Evs.cons (eB rfl) Evs.nil))) rfl ?_;refine sI ?_;refine zN ?_)
 have hge : decide (idxW w ≥ 0) = true := by have := yR w;simp;omega
 (refine zR ?_;(iterate 2 refine sI ?_);refine ALK.n (o3 (oI 1) (Evs.cons (Ev.of (eB rfl) (ImOf.im (ILe.bool hge))) (Evs.cons (eB rfl) Evs.nil))) rfl ?_;refine zN ?_)
 (refine zW ?_;refine sI ?_;refine ALK.n (o7 rfl (eB rfl) (eB rfl) (by omega) x1) rfl ?_;refine sI ?_;refine ALK.n (o3 (uA hM a ha hx) (Evs.cons (Ev.wth (eB rfl) rfl) Evs.nil)) rfl ?_;refine sI ?_;refine ALK.n (o7 rfl (eB rfl) (eB rfl) (by omega) x2) rfl ?_;refine sI ?_;refine ALK.n (o3 (uA hM b hb hy) (Evs.cons (Ev.wth (eB rfl) rfl) Evs.nil)) rfl ?_;(iterate 2 refine sI ?_);refine zD ?_)
 (refine zR ?_;(iterate 2 refine sI ?_);refine ALK.n (o3 (oI 1) (Evs.cons (Ev.of (eB rfl) (ImOf.im (ILe.bool (decide_eq_true (by omega))))) (Evs.cons (eB rfl) Evs.nil))) rfl ?_;refine zN ?_)
 (refine zR ?_;(iterate 2 refine sI ?_);refine zN ?_)
 refine zC (fun h => ?_) (fun h => ?_)
 ·(refine zR ?_;(iterate 3 refine sI ?_);refine ALK.e (o5 [0] (put_ok p d x y g hB (by omega) h8) EvsS.a rfl rfl rfl HIn.a) rfl rfl ?_;refine sI ?_;refine zN ?_)
  (repeat apply WP.seq)
  refine WP.ret ?_
  exact ⟨rfl,rfl,by rw [hr];rfl,by rw [hr];rfl⟩
 ·exact absurd h (by simp [hi])
omit g hB in
theorem line_big {w a b : List UInt8} (hs : splitS l = [w,a,b]) {x y : Int} (hx : numS a = some x) (hy : numS b = some y) (hi : idxW w = 0) (h0 : ¬ x < 0) (h8 : ¬ x < 8) : LineR M p d l := by
 have hr : lineS p d l = (errT 3,d) := by rw [yb hs,yk (by omega) hx hy];unfold actS;rw [if_neg h0,if_pos hi,if_neg h8]
 have hX := ym [[112,117,116],[114,101,97,100],[119,114,105,116,101]] w
 rw [uP w] at hX
 have ha : a.length ≤ 100000 := by have := ot l a (by rw [hs];simp);omega
 have hb : b.length ≤ 100000 := by have := ot l b (by rw [hs];simp);omega
 intro c0 c1 c2 c3 c hc F v0 v4
 have h1 : some (Code.seq _ (Code.seq _ (Code.seq (Code.seq _ (Code.block 0 _)) _))) = some (Code.seq c0 (Code.seq c1 (Code.seq (Code.seq c2 (Code.block 0 c3)) c))) := hc
 clear hc
 injection h1 with h1
 injection h1 with _ h1
 injection h1 with _ h1
 injection h1 with _ h1
 subst h1
 (refine zR ?_;refine sI ?_;refine ALK.n (o3 (u6 hM l (by omega)) (Evs.cons (Ev.wth (eB rfl) rfl) (Evs.cons (eB rfl) Evs.nil))) rfl ?_;refine sI ?_;refine zN ?_)
 rw [hs]
 have x0 : ([w,a,b])[((0 : Int)).toNat]? = some w := rfl
 have x1 : ([w,a,b])[((1 : Int)).toNat]? = some a := rfl
 have x2 : ([w,a,b])[((2 : Int)).toNat]? = some b := rfl
 (refine zR ?_;(iterate 3 refine sI ?_);refine ALK.n (o3 (oI 1) (Evs.cons Ev.a (Evs.cons Ev.a Evs.nil))) rfl ?_;refine zN ?_)
 (refine zR ?_;refine ALK.n (o6 rfl rfl rfl rfl rfl rfl (Pc rfl (eB rfl) Cs.a rfl rfl (Pc rfl (eB rfl) Cs.a rfl rfl (Pc rfl (eB rfl) Cs.a rfl rfl Parts.nil))) rfl) rfl ?_;refine sI ?_;refine ALK.n (o7 rfl (eB rfl) (eB rfl) (by omega) x0) rfl ?_;refine sI ?_;refine ALK.n (o3 hX (Evs.cons (Ev.of (eB rfl) (ImOf.im (ILe.view rfl))) (Evs.cons (eB rfl) Evs.nil))) rfl ?_;refine sI ?_;refine zN ?_)
 have hge : decide (idxW w ≥ 0) = true := by have := yR w;simp;omega
 (refine zR ?_;(iterate 2 refine sI ?_);refine ALK.n (o3 (oI 1) (Evs.cons (Ev.of (eB rfl) (ImOf.im (ILe.bool hge))) (Evs.cons (eB rfl) Evs.nil))) rfl ?_;refine zN ?_)
 (refine zW ?_;refine sI ?_;refine ALK.n (o7 rfl (eB rfl) (eB rfl) (by omega) x1) rfl ?_;refine sI ?_;refine ALK.n (o3 (uA hM a ha hx) (Evs.cons (Ev.wth (eB rfl) rfl) Evs.nil)) rfl ?_;refine sI ?_;refine ALK.n (o7 rfl (eB rfl) (eB rfl) (by omega) x2) rfl ?_;refine sI ?_;refine ALK.n (o3 (uA hM b hb hy) (Evs.cons (Ev.wth (eB rfl) rfl) Evs.nil)) rfl ?_;(iterate 2 refine sI ?_);refine zD ?_)
 (refine zR ?_;(iterate 2 refine sI ?_);refine ALK.n (o3 (oI 1) (Evs.cons (Ev.of (eB rfl) (ImOf.im (ILe.bool (decide_eq_true (by omega))))) (Evs.cons (eB rfl) Evs.nil))) rfl ?_;refine zN ?_)
 (refine zR ?_;(iterate 2 refine sI ?_);refine zN ?_)
 refine zC (fun h => ?_) (fun h => ?_)
 ·((repeat apply WP.seq);apply WP.xreg;refine LX.n (o4 (Ev.is rfl)) rfl ?_;refine LX.n (o4 (eB rfl)) rfl ?_;refine LX.n (o4 (eB rfl)) rfl ?_;refine LX.p (og [0] (put_no p d x y h8) EvsS.a rfl rfl rfl HIn.a) ?_)
  exact ⟨3,rfl,by omega,hr,rfl,rfl,rfl,rfl⟩
 ·exact absurd h (by simp [hi])
omit g hB in
theorem line_bad {w a b : List UInt8} (hs : splitS l = [w,a,b]) {x y : Int} (hx : numS a = some x) (hy : numS b = some y) (hi : idxW w ≠ -1) (hi0 : idxW w ≠ 0) (h0 : ¬ x < 0) (h1 : y < 0) : LineR M p d l := by
 have hr : lineS p d l = (errT 1,d) := by rw [yb hs,yk hi hx hy];unfold actS;rw [if_neg h0,if_neg hi0,if_pos h1]
 have hX := ym [[112,117,116],[114,101,97,100],[119,114,105,116,101]] w
 rw [uP w] at hX
 have ha : a.length ≤ 100000 := by have := ot l a (by rw [hs];simp);omega
 have hb : b.length ≤ 100000 := by have := ot l b (by rw [hs];simp);omega
 intro c0 c1 c2 c3 c hc F v0 v4
 have h1 : some (Code.seq _ (Code.seq _ (Code.seq (Code.seq _ (Code.block 0 _)) _))) = some (Code.seq c0 (Code.seq c1 (Code.seq (Code.seq c2 (Code.block 0 c3)) c))) := hc
 clear hc
 injection h1 with h1
 injection h1 with _ h1
 injection h1 with _ h1
 injection h1 with _ h1
 subst h1
 (refine zR ?_;refine sI ?_;refine ALK.n (o3 (u6 hM l (by omega)) (Evs.cons (Ev.wth (eB rfl) rfl) (Evs.cons (eB rfl) Evs.nil))) rfl ?_;refine sI ?_;refine zN ?_)
 rw [hs]
 have x0 : ([w,a,b])[((0 : Int)).toNat]? = some w := rfl
 have x1 : ([w,a,b])[((1 : Int)).toNat]? = some a := rfl
 have x2 : ([w,a,b])[((2 : Int)).toNat]? = some b := rfl
 (refine zR ?_;(iterate 3 refine sI ?_);refine ALK.n (o3 (oI 1) (Evs.cons Ev.a (Evs.cons Ev.a Evs.nil))) rfl ?_;refine zN ?_)
 (refine zR ?_;refine ALK.n (o6 rfl rfl rfl rfl rfl rfl (Pc rfl (eB rfl) Cs.a rfl rfl (Pc rfl (eB rfl) Cs.a rfl rfl (Pc rfl (eB rfl) Cs.a rfl rfl Parts.nil))) rfl) rfl ?_;refine sI ?_;refine ALK.n (o7 rfl (eB rfl) (eB rfl) (by omega) x0) rfl ?_;refine sI ?_;refine ALK.n (o3 hX (Evs.cons (Ev.of (eB rfl) (ImOf.im (ILe.view rfl))) (Evs.cons (eB rfl) Evs.nil))) rfl ?_;refine sI ?_;refine zN ?_)
 have hge : decide (idxW w ≥ 0) = true := by have := yR w;simp;omega
 (refine zR ?_;(iterate 2 refine sI ?_);refine ALK.n (o3 (oI 1) (Evs.cons (Ev.of (eB rfl) (ImOf.im (ILe.bool hge))) (Evs.cons (eB rfl) Evs.nil))) rfl ?_;refine zN ?_)
 (refine zW ?_;refine sI ?_;refine ALK.n (o7 rfl (eB rfl) (eB rfl) (by omega) x1) rfl ?_;refine sI ?_;refine ALK.n (o3 (uA hM a ha hx) (Evs.cons (Ev.wth (eB rfl) rfl) Evs.nil)) rfl ?_;refine sI ?_;refine ALK.n (o7 rfl (eB rfl) (eB rfl) (by omega) x2) rfl ?_;refine sI ?_;refine ALK.n (o3 (uA hM b hb hy) (Evs.cons (Ev.wth (eB rfl) rfl) Evs.nil)) rfl ?_;(iterate 2 refine sI ?_);refine zD ?_)
 (refine zR ?_;(iterate 2 refine sI ?_);refine ALK.n (o3 (oI 1) (Evs.cons (Ev.of (eB rfl) (ImOf.im (ILe.bool (decide_eq_true (by omega))))) (Evs.cons (eB rfl) Evs.nil))) rfl ?_;refine zN ?_)
 (refine zR ?_;(iterate 2 refine sI ?_);refine zN ?_)
 refine zC (fun h => ?_) (fun h => ?_)
 ·exact absurd h (by simp [hi0])
 refine zS ?_
 clear h
 ((repeat apply WP.seq);apply WP.xreg;refine LX.n (o4 (Ev.is rfl)) rfl ?_;refine LX.n (o4 (eB rfl)) rfl ?_;refine LX.n (o4 (eB rfl)) rfl ?_;refine LX.n (o4 (eB rfl)) rfl ?_;refine LX.p (og [0] (step_bad p d (idxW w) x y (by omega)) EvsS.a rfl rfl rfl HIn.a) ?_)
 exact ⟨1,rfl,by omega,hr,rfl,rfl,rfl,rfl⟩
omit g in
theorem line_do {w a b : List UInt8} (hs : splitS l = [w,a,b]) {x y : Int} (hx : numS a = some x) (hy : numS b = some y) (hi : idxW w ≠ -1) (hi0 : idxW w ≠ 0) (h0 : ¬ x < 0) (h1 : ¬ y < 0) (h2 : doE p d.s ⟨idxW w,x,y⟩ = 0) : LineR M p d l := by
 have hr : lineS p d l = (sOk,doD p d ⟨idxW w,x,y⟩) := by rw [yb hs,yk hi hx hy];unfold actS;rw [if_neg h0,if_neg hi0,if_neg h1,if_pos h2]
 have hX := ym [[112,117,116],[114,101,97,100],[119,114,105,116,101]] w
 rw [uP w] at hX
 have ha : a.length ≤ 100000 := by have := ot l a (by rw [hs];simp);omega
 have hb : b.length ≤ 100000 := by have := ot l b (by rw [hs];simp);omega
 intro c0 c1 c2 c3 c hc F v0 v4
 have h1 : some (Code.seq _ (Code.seq _ (Code.seq (Code.seq _ (Code.block 0 _)) _))) = some (Code.seq c0 (Code.seq c1 (Code.seq (Code.seq c2 (Code.block 0 c3)) c))) := hc
 clear hc
 injection h1 with h1
 injection h1 with _ h1
 injection h1 with _ h1
 injection h1 with _ h1
 subst h1
 (refine zR ?_;refine sI ?_;refine ALK.n (o3 (u6 hM l (by omega)) (Evs.cons (Ev.wth (eB rfl) rfl) (Evs.cons (eB rfl) Evs.nil))) rfl ?_;refine sI ?_;refine zN ?_)
 rw [hs]
 have x0 : ([w,a,b])[((0 : Int)).toNat]? = some w := rfl
 have x1 : ([w,a,b])[((1 : Int)).toNat]? = some a := rfl
 have x2 : ([w,a,b])[((2 : Int)).toNat]? = some b := rfl
 (refine zR ?_;(iterate 3 refine sI ?_);refine ALK.n (o3 (oI 1) (Evs.cons Ev.a (Evs.cons Ev.a Evs.nil))) rfl ?_;refine zN ?_)
 (refine zR ?_;refine ALK.n (o6 rfl rfl rfl rfl rfl rfl (Pc rfl (eB rfl) Cs.a rfl rfl (Pc rfl (eB rfl) Cs.a rfl rfl (Pc rfl (eB rfl) Cs.a rfl rfl Parts.nil))) rfl) rfl ?_;refine sI ?_;refine ALK.n (o7 rfl (eB rfl) (eB rfl) (by omega) x0) rfl ?_;refine sI ?_;refine ALK.n (o3 hX (Evs.cons (Ev.of (eB rfl) (ImOf.im (ILe.view rfl))) (Evs.cons (eB rfl) Evs.nil))) rfl ?_;refine sI ?_;refine zN ?_)
 have hge : decide (idxW w ≥ 0) = true := by have := yR w;simp;omega
 (refine zR ?_;(iterate 2 refine sI ?_);refine ALK.n (o3 (oI 1) (Evs.cons (Ev.of (eB rfl) (ImOf.im (ILe.bool hge))) (Evs.cons (eB rfl) Evs.nil))) rfl ?_;refine zN ?_)
 (refine zW ?_;refine sI ?_;refine ALK.n (o7 rfl (eB rfl) (eB rfl) (by omega) x1) rfl ?_;refine sI ?_;refine ALK.n (o3 (uA hM a ha hx) (Evs.cons (Ev.wth (eB rfl) rfl) Evs.nil)) rfl ?_;refine sI ?_;refine ALK.n (o7 rfl (eB rfl) (eB rfl) (by omega) x2) rfl ?_;refine sI ?_;refine ALK.n (o3 (uA hM b hb hy) (Evs.cons (Ev.wth (eB rfl) rfl) Evs.nil)) rfl ?_;(iterate 2 refine sI ?_);refine zD ?_)
 (refine zR ?_;(iterate 2 refine sI ?_);refine ALK.n (o3 (oI 1) (Evs.cons (Ev.of (eB rfl) (ImOf.im (ILe.bool (decide_eq_true (by omega))))) (Evs.cons (eB rfl) Evs.nil))) rfl ?_;refine zN ?_)
 (refine zR ?_;(iterate 2 refine sI ?_);refine zN ?_)
 refine zC (fun h => ?_) (fun h => ?_)
 ·exact absurd h (by simp [hi0])
 refine zS ?_
 clear h
 (refine zR ?_;(iterate 4 refine sI ?_);refine ALK.e (o5 [0] (step_ok p d (idxW w) x y hB (by omega) h2) EvsS.a rfl rfl rfl HIn.a) rfl rfl ?_;refine sI ?_;refine zN ?_)
 (repeat apply WP.seq)
 refine WP.ret ?_
 exact ⟨rfl,rfl,by rw [hr];rfl,by rw [hr];rfl⟩
theorem line_not {w a b : List UInt8} (hs : splitS l = [w,a,b]) {x y : Int} (hx : numS a = some x) (hy : numS b = some y) (hi : idxW w ≠ -1) (hi0 : idxW w ≠ 0) (h0 : ¬ x < 0) (h1 : ¬ y < 0) (h2 : ¬ doE p d.s ⟨idxW w,x,y⟩ = 0) : LineR M p d l := by
 have hr : lineS p d l = (errT (doE p d.s ⟨idxW w,x,y⟩),d) := by rw [yb hs,yk hi hx hy];unfold actS;rw [if_neg h0,if_neg hi0,if_neg h1,if_neg h2]
 have hX := ym [[112,117,116],[114,101,97,100],[119,114,105,116,101]] w
 rw [uP w] at hX
 have ha : a.length ≤ 100000 := by have := ot l a (by rw [hs];simp);omega
 have hb : b.length ≤ 100000 := by have := ot l b (by rw [hs];simp);omega
 have he := errno_do g.v ⟨idxW w,x,y⟩
 intro c0 c1 c2 c3 c hc F v0 v4
 have h1 : some (Code.seq _ (Code.seq _ (Code.seq (Code.seq _ (Code.block 0 _)) _))) = some (Code.seq c0 (Code.seq c1 (Code.seq (Code.seq c2 (Code.block 0 c3)) c))) := hc
 clear hc
 injection h1 with h1
 injection h1 with _ h1
 injection h1 with _ h1
 injection h1 with _ h1
 subst h1
 (refine zR ?_;refine sI ?_;refine ALK.n (o3 (u6 hM l (by omega)) (Evs.cons (Ev.wth (eB rfl) rfl) (Evs.cons (eB rfl) Evs.nil))) rfl ?_;refine sI ?_;refine zN ?_)
 rw [hs]
 have x0 : ([w,a,b])[((0 : Int)).toNat]? = some w := rfl
 have x1 : ([w,a,b])[((1 : Int)).toNat]? = some a := rfl
 have x2 : ([w,a,b])[((2 : Int)).toNat]? = some b := rfl
 (refine zR ?_;(iterate 3 refine sI ?_);refine ALK.n (o3 (oI 1) (Evs.cons Ev.a (Evs.cons Ev.a Evs.nil))) rfl ?_;refine zN ?_)
 (refine zR ?_;refine ALK.n (o6 rfl rfl rfl rfl rfl rfl (Pc rfl (eB rfl) Cs.a rfl rfl (Pc rfl (eB rfl) Cs.a rfl rfl (Pc rfl (eB rfl) Cs.a rfl rfl Parts.nil))) rfl) rfl ?_;refine sI ?_;refine ALK.n (o7 rfl (eB rfl) (eB rfl) (by omega) x0) rfl ?_;refine sI ?_;refine ALK.n (o3 hX (Evs.cons (Ev.of (eB rfl) (ImOf.im (ILe.view rfl))) (Evs.cons (eB rfl) Evs.nil))) rfl ?_;refine sI ?_;refine zN ?_)
 have hge : decide (idxW w ≥ 0) = true := by have := yR w;simp;omega
 (refine zR ?_;(iterate 2 refine sI ?_);refine ALK.n (o3 (oI 1) (Evs.cons (Ev.of (eB rfl) (ImOf.im (ILe.bool hge))) (Evs.cons (eB rfl) Evs.nil))) rfl ?_;refine zN ?_)
 (refine zW ?_;refine sI ?_;refine ALK.n (o7 rfl (eB rfl) (eB rfl) (by omega) x1) rfl ?_;refine sI ?_;refine ALK.n (o3 (uA hM a ha hx) (Evs.cons (Ev.wth (eB rfl) rfl) Evs.nil)) rfl ?_;refine sI ?_;refine ALK.n (o7 rfl (eB rfl) (eB rfl) (by omega) x2) rfl ?_;refine sI ?_;refine ALK.n (o3 (uA hM b hb hy) (Evs.cons (Ev.wth (eB rfl) rfl) Evs.nil)) rfl ?_;(iterate 2 refine sI ?_);refine zD ?_)
 (refine zR ?_;(iterate 2 refine sI ?_);refine ALK.n (o3 (oI 1) (Evs.cons (Ev.of (eB rfl) (ImOf.im (ILe.bool (decide_eq_true (by omega))))) (Evs.cons (eB rfl) Evs.nil))) rfl ?_;refine zN ?_)
 (refine zR ?_;(iterate 2 refine sI ?_);refine zN ?_)
 refine zC (fun h => ?_) (fun h => ?_)
 ·exact absurd h (by simp [hi0])
 refine zS ?_
 clear h
 ((repeat apply WP.seq);apply WP.xreg;refine LX.n (o4 (Ev.is rfl)) rfl ?_;refine LX.n (o4 (eB rfl)) rfl ?_;refine LX.n (o4 (eB rfl)) rfl ?_;refine LX.n (o4 (eB rfl)) rfl ?_;refine LX.p (og [0] (step_no p d (idxW w) x y hB (by omega) h2) EvsS.a rfl rfl rfl HIn.a) ?_)
 exact ⟨_,rfl,by omega,hr,rfl,rfl,rfl,rfl⟩
end
end Go.Proofs.YtjgmbgfcffnanaaGreatDoor
