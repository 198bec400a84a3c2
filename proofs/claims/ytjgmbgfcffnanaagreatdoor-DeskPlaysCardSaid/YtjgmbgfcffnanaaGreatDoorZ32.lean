/- Package wire: lists, and what they are given; they panic where too little is left. -/
import Derived.Test.YtjgmbgfcffnanaaGreatDoorZ31
set_option maxRecDepth 100000
set_option maxHeartbeats 4000000
namespace Go.Proofs.YtjgmbgfcffnanaaGreatDoor
open Go.RowKit
theorem yl {α : Type} (p : Pr α) (s : List UInt8) : listP p s = (numP 1 s).bind fun x => repP p x.1.toNat x.2 := rfl
theorem j5 (s : List UInt8) : guardP s = (numP 1 s).bind fun x => (opP x.2).bind fun a => (opP a.2).bind fun b => some (⟨x.1,a.1,b.1⟩,b.2) := rfl
theorem jK (s : List UInt8) : setP s = (numP 1 s).bind fun x => (numP 1 x.2).bind fun z => (opP z.2).bind fun a => (opP a.2).bind fun b => some (⟨x.1,z.1,a.1,b.1⟩,b.2) := rfl
theorem txnP_cut (s : List UInt8) : txnP s = (listP (numP 1) s).bind fun x => (listP guardP x.2).bind fun z => (listP setP z.2).bind fun a => some (⟨x.1,z.1,a.1⟩,a.2) := rfl
theorem WP.post {C : Cfg} {F : Fx} {nt : Nat} {c : Code} {Q : Exit → St → Prop} {x : St} (h : WP C F nt c (fun e y => ∃ z,Shift F nt y z ∧ Q e z) x) : WP C F nt c Q x := fun μ ρ a w hi => wpIn_mono (h μ ρ a w hi) fun e a' w' ⟨y,μ',ρ',⟨z,h1,h2⟩,h3⟩ => by
 obtain ⟨μ2,ρ2,h4⟩ := h1 _ _ _ _ h3
 exact ⟨z,μ2,ρ2,h2,h4⟩
def nilT : List IV := [IV.val (.slice none 0 0),IV.val (.slice none 0 0),IV.val (.slice none 0 0)]
theorem jx (s : List UInt8) : FnX CC 26 2 [.off 1 0,.pp [.off 0 0]] [(0,glassB s),(1,imB 3 [IV.int 0])] (((numP 1) s).map fun y => (.im (IV.tup []),[(0,glassB y.2),(1,imB 3 (cI y.1))])) 2 [0,1] ch0 [] [] := by
 refine FnX.of_wp _ [(0,1),(1,0)] [] Tryz.func26 rfl (by kernel_rfl) Tryz.ntmps26 rfl rfl rfl (fun s H' h => by obtain ⟨y,_,e⟩ := Option.map_eq_some_iff.1 h;cases e;rfl) rfl rfl rfl rfl rfl rfl rfl ?_
 intro F vs hD hvs
 obtain ⟨v0,v1,rfl⟩ := len2 hvs
 show WP _ _ _ _ _ ⟨[(0,.is v0 (.off 1 0)),(1,.is v1 (.pp [.off 0 0]))],[(0,glassB s),(1,imB 3 [IV.int 0])],2⟩
 have hX := uJ [0] s 3 [IV.int 0] (by simp) (by simp) (by simp)
 cases hp : numP 1 s with
 | none =>
  ((repeat apply WP.seq);apply WP.xreg;refine LX.n (oe rfl rfl (Ev.is rfl) rfl) rfl ?_;refine LX.n (o4 (Ev.is rfl)) rfl ?_;refine LX.n (od rfl rfl rfl rfl rfl rfl (Pc rfl (eB rfl) Cs.a rfl rfl Parts.nil)) rfl ?_;refine LX.p (og [0,1] (hX.no (by rw [y3,hp];rfl)) EvsS.a rfl rfl rfl HIn.a) ?_)
  exact ⟨rfl,rfl,HSb.nil,Kept.nil⟩
 | some y =>
  obtain ⟨n,r⟩ := y
  (refine zR ?_;refine ALK.n (oe rfl rfl (Ev.is rfl) rfl) rfl ?_;refine sI ?_;refine ALK.n (od rfl rfl rfl rfl rfl rfl (Pc rfl (eB rfl) Cs.a rfl rfl Parts.nil)) rfl ?_;refine ALK.e (o5 [0,1] (hX.ok (by rw [y3,hp];rfl)) EvsS.a rfl rfl rfl HIn.a) rfl rfl ?_;refine zN ?_)
  exact ⟨_,_,rfl,RetOkE.none Tryz.results26 HSb.a Kept.a⟩
theorem qM (s : List UInt8) : FnX CC 28 2 [.off 1 0,.pp [.off 0 0]] [(0,glassB s),(1,imB 83 (cG ⟨0,⟨0,0⟩,⟨0,0⟩⟩))] ((guardP s).map fun y => (.im (IV.tup []),[(0,glassB y.2),(1,imB 83 (cG y.1))])) 2 [0,1] ch0 [] [] := by
 refine FnX.of_wp _ [(0,1),(1,0)] [] Tryz.func28 rfl (by kernel_rfl) Tryz.ntmps28 rfl rfl rfl (fun s H' h => by obtain ⟨y,_,e⟩ := Option.map_eq_some_iff.1 h;cases e;rfl) rfl rfl rfl rfl rfl rfl rfl ?_
 intro F vs hD hvs
 obtain ⟨v0,v1,rfl⟩ := len2 hvs
 show WP _ _ _ _ _ ⟨[(0,.is v0 (.off 1 0)),(1,.is v1 (.pp [.off 0 0]))],[(0,glassB s),(1,imB 83 (cG ⟨0,⟨0,0⟩,⟨0,0⟩⟩))],2⟩
 have hX := uJ [0 + 0] s 83 (cG ⟨0,⟨0,0⟩,⟨0,0⟩⟩) (by simp) (by simp [cG]) (by simp)
 cases hp : numP 1 s with
 | none =>
  ((repeat apply WP.seq);refine WP.xdraw 5 _ (.const (.bool true)) rfl rfl ?_;refine ALK.n (oe rfl rfl (Ev.is rfl) rfl) rfl ?_;(iterate 2 refine sI ?_);refine fI 0 ?_;refine ALK.n (od rfl rfl rfl rfl rfl rfl (Pc rfl (Ev.base rfl) Cs.a rfl rfl Parts.nil)) rfl ?_;refine ALK.n (o4 (Ev.base rfl)) rfl ?_;refine ALK.nilP (by kernel_rfl) (by kernel_rfl) ⟨_,_,_,og [0,1] (hX.no (by rw [y3,hp];rfl)) EvsS.a rfl rfl rfl HIn.a,?_⟩)
  exact ⟨by rw [j5,hp];rfl,rfl,HSb.nil,Kept.nil⟩
 | some y =>
  obtain ⟨n,r⟩ := y
  (refine zW ?_;refine ALK.n (oe rfl rfl (Ev.is rfl) rfl) rfl ?_;(iterate 2 refine sI ?_);refine fI 0 ?_;refine ALK.n (od rfl rfl rfl rfl rfl rfl (Pc rfl (eB rfl) Cs.a rfl rfl Parts.nil)) rfl ?_;refine ALK.e (o5 [0,1] (hX.ok (by rw [y3,hp];rfl)) EvsS.a rfl rfl rfl HIn.a) rfl rfl ?_;refine zD ?_)
  have hY := js [0 + 1,0 + 3] r 83 [IV.int n,IV.int 0,IV.int 0,IV.int 0,IV.int 0] (by simp) (by simp []) (by simp)
  cases ha : opP r with
  | none =>
   ((repeat apply WP.seq);refine WP.xdraw 8 _ (.const (.bool true)) rfl rfl ?_;refine ALK.n (oe rfl rfl (Ev.is rfl) rfl) rfl ?_;(iterate 2 refine sI ?_);refine fI 1 ?_;(iterate 2 refine sI ?_);refine fI 3 ?_;refine ALK.n (od rfl rfl rfl rfl rfl rfl (Pc rfl (Ev.base rfl) Cs.a rfl rfl (Pc rfl (Ev.base rfl) Cs.a rfl rfl Parts.nil))) rfl ?_;refine ALK.n (o4 (Ev.base rfl)) rfl ?_;refine ALK.nilP (by kernel_rfl) (by kernel_rfl) ⟨_,_,_,og [0,1] (hY.no (by rw [yB,ha];rfl)) EvsS.a rfl rfl rfl HIn.a,?_⟩)
   exact ⟨by rw [j5,hp,Option.bind_some,ha];rfl,rfl,HSb.nil,Kept.nil⟩
  | some y =>
   obtain ⟨a,ra⟩ := y
   cases hb : opP ra with
   | none =>
    ((repeat apply WP.seq);refine WP.xdraw 8 _ (.const (.bool true)) rfl rfl ?_;refine ALK.n (oe rfl rfl (Ev.is rfl) rfl) rfl ?_;(iterate 2 refine sI ?_);refine fI 1 ?_;(iterate 2 refine sI ?_);refine fI 3 ?_;refine ALK.n (od rfl rfl rfl rfl rfl rfl (Pc rfl (Ev.base rfl) Cs.a rfl rfl (Pc rfl (Ev.base rfl) Cs.a rfl rfl Parts.nil))) rfl ?_;refine ALK.n (o4 (Ev.base rfl)) rfl ?_;refine ALK.nilP (by kernel_rfl) (by kernel_rfl) ⟨_,_,_,og [0,1] (hY.no (by rw [yB,ha,Option.bind_some,yB,hb];rfl)) EvsS.a rfl rfl rfl HIn.a,?_⟩)
    exact ⟨by rw [j5,hp,Option.bind_some,ha,Option.bind_some,hb];rfl,rfl,HSb.nil,Kept.nil⟩
   | some y =>
    obtain ⟨b,rb⟩ := y
    (refine zW ?_;refine ALK.n (oe rfl rfl (Ev.is rfl) rfl) rfl ?_;(iterate 2 refine sI ?_);refine fI 1 ?_;(iterate 2 refine sI ?_);refine fI 3 ?_;refine ALK.n (od rfl rfl rfl rfl rfl rfl (Pc rfl (eB rfl) Cs.a rfl rfl (Pc rfl (eB rfl) Cs.a rfl rfl Parts.nil))) rfl ?_;refine ALK.e (o5 [0,1] (hY.ok (by rw [yB,ha,Option.bind_some,yB,hb];rfl)) EvsS.a rfl rfl rfl HIn.a) rfl rfl ?_;refine zD ?_)
    exact ⟨_,_,by rw [j5,hp,Option.bind_some,ha,Option.bind_some,hb];rfl,RetOkE.none Tryz.results28 HSb.a Kept.a⟩
theorem jQ (s : List UInt8) : FnX CC 31 2 [.off 1 0,.pp [.off 0 0]] [(0,glassB s),(1,imB 90 (cS ⟨0,0,⟨0,0⟩,⟨0,0⟩⟩))] ((setP s).map fun y => (.im (IV.tup []),[(0,glassB y.2),(1,imB 90 (cS y.1))])) 2 [0,1] ch0 [] [] := by
 refine FnX.of_wp _ [(0,1),(1,0)] [] Tryz.func31 rfl (by kernel_rfl) Tryz.ntmps31 rfl rfl rfl (fun s H' h => by obtain ⟨y,_,e⟩ := Option.map_eq_some_iff.1 h;cases e;rfl) rfl rfl rfl rfl rfl rfl rfl ?_
 intro F vs hD hvs
 obtain ⟨v0,v1,rfl⟩ := len2 hvs
 show WP _ _ _ _ _ ⟨[(0,.is v0 (.off 1 0)),(1,.is v1 (.pp [.off 0 0]))],[(0,glassB s),(1,imB 90 (cS ⟨0,0,⟨0,0⟩,⟨0,0⟩⟩))],2⟩
 have hX := uJ [0 + 0,0 + 1] s 90 (cS ⟨0,0,⟨0,0⟩,⟨0,0⟩⟩) (by simp) (by simp [cS]) (by simp)
 cases hp : numP 1 s with
 | none =>
  ((repeat apply WP.seq);refine WP.xdraw 8 _ (.const (.bool true)) rfl rfl ?_;refine ALK.n (oe rfl rfl (Ev.is rfl) rfl) rfl ?_;(iterate 2 refine sI ?_);refine fI 0 ?_;(iterate 2 refine sI ?_);refine fI 1 ?_;refine ALK.n (od rfl rfl rfl rfl rfl rfl (Pc rfl (Ev.base rfl) Cs.a rfl rfl (Pc rfl (Ev.base rfl) Cs.a rfl rfl Parts.nil))) rfl ?_;refine ALK.n (o4 (Ev.base rfl)) rfl ?_;refine ALK.nilP (by kernel_rfl) (by kernel_rfl) ⟨_,_,_,og [0,1] (hX.no (by rw [y3,hp];rfl)) EvsS.a rfl rfl rfl HIn.a,?_⟩)
  exact ⟨by rw [jK,hp];rfl,rfl,HSb.nil,Kept.nil⟩
 | some y =>
  obtain ⟨n,r1⟩ := y
  cases hp2 : numP 1 r1 with
  | none =>
   ((repeat apply WP.seq);refine WP.xdraw 8 _ (.const (.bool true)) rfl rfl ?_;refine ALK.n (oe rfl rfl (Ev.is rfl) rfl) rfl ?_;(iterate 2 refine sI ?_);refine fI 0 ?_;(iterate 2 refine sI ?_);refine fI 1 ?_;refine ALK.n (od rfl rfl rfl rfl rfl rfl (Pc rfl (Ev.base rfl) Cs.a rfl rfl (Pc rfl (Ev.base rfl) Cs.a rfl rfl Parts.nil))) rfl ?_;refine ALK.n (o4 (Ev.base rfl)) rfl ?_;refine ALK.nilP (by kernel_rfl) (by kernel_rfl) ⟨_,_,_,og [0,1] (hX.no (by rw [y3,hp,Option.bind_some,y3,hp2];rfl)) EvsS.a rfl rfl rfl HIn.a,?_⟩)
   exact ⟨by rw [jK,hp,Option.bind_some,hp2];rfl,rfl,HSb.nil,Kept.nil⟩
  | some y =>
   obtain ⟨q,r⟩ := y
   (refine zW ?_;refine ALK.n (oe rfl rfl (Ev.is rfl) rfl) rfl ?_;(iterate 2 refine sI ?_);refine fI 0 ?_;(iterate 2 refine sI ?_);refine fI 1 ?_;refine ALK.n (od rfl rfl rfl rfl rfl rfl (Pc rfl (eB rfl) Cs.a rfl rfl (Pc rfl (eB rfl) Cs.a rfl rfl Parts.nil))) rfl ?_;refine ALK.e (o5 [0,1] (hX.ok (by rw [y3,hp,Option.bind_some,y3,hp2];rfl)) EvsS.a rfl rfl rfl HIn.a) rfl rfl ?_;refine zD ?_)
   have hY := js [0 + 2,0 + 4] r 90 [IV.int n,IV.int q,IV.int 0,IV.int 0,IV.int 0,IV.int 0] (by simp) (by simp []) (by simp)
   cases ha : opP r with
   | none =>
    ((repeat apply WP.seq);refine WP.xdraw 8 _ (.const (.bool true)) rfl rfl ?_;refine ALK.n (oe rfl rfl (Ev.is rfl) rfl) rfl ?_;(iterate 2 refine sI ?_);refine fI 2 ?_;(iterate 2 refine sI ?_);refine fI 4 ?_;refine ALK.n (od rfl rfl rfl rfl rfl rfl (Pc rfl (Ev.base rfl) Cs.a rfl rfl (Pc rfl (Ev.base rfl) Cs.a rfl rfl Parts.nil))) rfl ?_;refine ALK.n (o4 (Ev.base rfl)) rfl ?_;refine ALK.nilP (by kernel_rfl) (by kernel_rfl) ⟨_,_,_,og [0,1] (hY.no (by rw [yB,ha];rfl)) EvsS.a rfl rfl rfl HIn.a,?_⟩)
    exact ⟨by rw [jK,hp,Option.bind_some,hp2,Option.bind_some,ha];rfl,rfl,HSb.nil,Kept.nil⟩
   | some y =>
    obtain ⟨a,ra⟩ := y
    cases hb : opP ra with
    | none =>
     ((repeat apply WP.seq);refine WP.xdraw 8 _ (.const (.bool true)) rfl rfl ?_;refine ALK.n (oe rfl rfl (Ev.is rfl) rfl) rfl ?_;(iterate 2 refine sI ?_);refine fI 2 ?_;(iterate 2 refine sI ?_);refine fI 4 ?_;refine ALK.n (od rfl rfl rfl rfl rfl rfl (Pc rfl (Ev.base rfl) Cs.a rfl rfl (Pc rfl (Ev.base rfl) Cs.a rfl rfl Parts.nil))) rfl ?_;refine ALK.n (o4 (Ev.base rfl)) rfl ?_;refine ALK.nilP (by kernel_rfl) (by kernel_rfl) ⟨_,_,_,og [0,1] (hY.no (by rw [yB,ha,Option.bind_some,yB,hb];rfl)) EvsS.a rfl rfl rfl HIn.a,?_⟩)
     exact ⟨by rw [jK,hp,Option.bind_some,hp2,Option.bind_some,ha,Option.bind_some,hb];rfl,rfl,HSb.nil,Kept.nil⟩
    | some y =>
     obtain ⟨b,rb⟩ := y
     (refine zW ?_;refine ALK.n (oe rfl rfl (Ev.is rfl) rfl) rfl ?_;(iterate 2 refine sI ?_);refine fI 2 ?_;(iterate 2 refine sI ?_);refine fI 4 ?_;refine ALK.n (od rfl rfl rfl rfl rfl rfl (Pc rfl (eB rfl) Cs.a rfl rfl (Pc rfl (eB rfl) Cs.a rfl rfl Parts.nil))) rfl ?_;refine ALK.e (o5 [0,1] (hY.ok (by rw [yB,ha,Option.bind_some,yB,hb];rfl)) EvsS.a rfl rfl rfl HIn.a) rfl rfl ?_;refine zD ?_)
     exact ⟨_,_,by rw [jK,hp,Option.bind_some,hp2,Option.bind_some,ha,Option.bind_some,hb];rfl,RetOkE.none Tryz.results31 HSb.a Kept.a⟩
theorem ju (f : FuncId) (hf : ∀ s,FnX CC f 2 [.off 1 0,.pp [.off 0 0]] [(0,glassB s),(1,imB 3 [IV.int 0])] (((numP 1) s).map fun y => (.im (IV.tup []),[(0,glassB y.2),(1,imB 3 (cI y.1))])) 2 [0,1] ch0 [] []) (s : List UInt8) :
 FnX CC 25 1 [.off 0 0,.fn f [.pp [.off 0 0]]] [(0,glassB s)] ((listP (numP 1) s).map fun y => (.row 1 y.1.length,[(0,glassB y.2),(1,.row 3 1 cI y.1)])) 2 [0] ch0 [] [] := by
 refine FnX.of_wp _ [(0,0)] [] Tryz.func25 rfl (by kernel_rfl) Tryz.ntmps25 rfl rfl rfl (fun s H' h => by obtain ⟨y,_,e⟩ := Option.map_eq_some_iff.1 h;cases e;rfl) rfl rfl rfl rfl rfl rfl rfl ?_
 intro F vs hD hvs
 obtain ⟨v0,v1,rfl⟩ := len2 hvs
 show WP _ _ _ _ _ ⟨[(0,.is v0 (.off 0 0)),(1,.is v1 (.fn f [.pp [.off 0 0]]))],[(0,glassB s)],1⟩
 (refine zR ?_;refine sI ?_;refine zN ?_)
 (refine zR ?_;refine sI ?_;refine zN ?_)
 refine WP.shift (Shift.row0 5 3 1 cI (fun _ => rfl) rfl) ?_
 cases hp : numP 1 s with
 | none =>
  ((repeat apply WP.seq);apply WP.xreg;refine LX.n (o4 (Ev.is rfl)) rfl ?_;refine LX.p (og [0] ((oD 1 s (by omega)).no (by rw [hp];rfl)) EvsS.a rfl rfl rfl HIn.a) ?_)
  exact ⟨by rw [yl,hp];rfl,rfl,HSb.nil,Kept.nil⟩
 | some y =>
  obtain ⟨n,r0⟩ := y
  have hnr := qb hp
  (refine zR ?_;refine sI ?_;refine ALK.e (o5 [0] ((oD 1 s (by omega)).ok (by rw [hp];rfl)) EvsS.a rfl rfl rfl HIn.a) rfl rfl ?_;refine sI ?_;refine zN ?_)
  refine zB ?_
  refine WP.loop (fun c : Nat × List Int × List UInt8 => ⟨[(9,.im (IV.int c.1)),(5,.row 1 c.2.1.length),(8,.im (IV.int n)),(0,.is v0 (.off 0 0)),(1,.is v1 (.fn f [.pp [.off 0 0]]))],[(0,glassB c.2.2),(1,.row 3 1 cI c.2.1)],2⟩) (fun c => (c.1 : Int) ≤ n ∧ repP (numP 1) c.1 r0 = some (c.2.1,c.2.2)) (fun c => n.toNat - c.1) (0,[],r0) ⟨hnr.1,rfl⟩ (Shift.sub [(0,0),(1,1)] rfl (SubE.cons rfl SLe.a (SubE.cons rfl SLe.a (SubE.cons rfl SLe.a (SubE.cons rfl SLe.a (SubE.cons rfl (SLe.is (SLe.fn (SLes.cons (SLe.pp (SLes.cons (SLe.off rfl rfl) SLes.nil)) SLes.nil))) SubE.nil))))) (SubH.cons rfl rfl (ObLe.blk SLes.a) (SubH.cons rfl rfl (ObLe.row rfl) SubH.nil))) ?_
  rintro ⟨i,l,r⟩ ⟨hi,hr⟩
  simp only at hi hr
  have hll := jR hr
  (refine zR ?_;refine sI ?_;refine zN ?_)
  refine zC (fun h => ?_) (fun h => ?_)
  ·refine zS ?_
   have hlt : (i : Int) < n := by simpa using h
   refine zB ?_
   (refine zR ?_;refine sI ?_;refine zN ?_)
   cases hq : (numP 1) r with
   | none =>
    ((repeat apply WP.seq);apply WP.xreg;refine LX.n (o4 (Ev.is rfl)) rfl ?_;refine LX.p (ql (args := [.off 1 0]) (caps := [.pp [.off 0 0]]) [0,2] (eB rfl) ((hf r).no (by rw [hq];rfl)) EvsS.a rfl rfl rfl HIn.a) ?_)
    have hz : repP (numP 1) (i + 1) r0 = none := by rw [yJ,oF hr,andP_no hq]
    exact ⟨by rw [yl,hp,Option.bind_some,v7 hz _ (by omega)];rfl,rfl,HSb.nil,Kept.nil⟩
   | some y =>
    obtain ⟨x,r'⟩ := y
    (refine zR ?_;refine sI ?_;refine ALK.e (qo (args := [.off 1 0]) (caps := [.pp [.off 0 0]]) [0,2] (eB rfl) ((hf r).ok (by rw [hq];rfl)) EvsS.a rfl rfl rfl HIn.a) rfl rfl ?_;refine zN ?_)
    (refine zR ?_;(iterate 2 refine sI ?_);refine ALK.n (o6 rfl rfl rfl rfl rfl rfl (Pc rfl (eB rfl) Cs.a rfl rfl Parts.nil) rfl) rfl ?_;refine ALK.e (o8 (b := 8) [x] rfl rfl rfl rfl rfl (eB rfl) (eB rfl) rfl rfl (by simp;omega) rfl) rfl rfl ?_;refine sI ?_;refine zN ?_)
    (refine zR ?_;(iterate 2 refine sI ?_);refine zN ?_)
    show ∃ _,_ ∧ _ ∧ _
    exact ⟨(i + 1,l ++ [x],r'),⟨by simp only;omega,by rw [yJ,oF hr,oF hq];rfl⟩,by simp only;omega,Shift.sub [(0,0),(1,3)] rfl (SubE.cons rfl (SLe.im (ILe.int (by simp only [];omega))) (SubE.cons rfl (SLe.row rfl (by simp)) (SubE.cons rfl SLe.a (SubE.cons rfl SLe.a (SubE.cons rfl (SLe.is (SLe.fn (SLes.cons (SLe.pp (SLes.cons (SLe.off rfl rfl) SLes.nil)) SLes.nil))) SubE.nil))))) (SubH.cons rfl rfl (ObLe.blk SLes.a) (SubH.cons rfl rfl (ObLe.row rfl) SubH.nil))⟩
  ·refine zE ?_
   have hie : i = n.toNat := by simp at h;omega
   subst hie
   (refine zR ?_;(iterate 2 refine sI ?_);refine zN ?_)
   (repeat apply WP.seq)
   refine WP.ret ?_
   exact ⟨_,_,by rw [yl,hp,Option.bind_some,hr];rfl,RetOkE.sv Tryz.results25 rfl HSb.a Kept.a⟩
theorem qq (f : FuncId) (hf : ∀ s,FnX CC f 2 [.off 1 0,.pp [.off 0 0]] [(0,glassB s),(1,imB 83 (cG ⟨0,⟨0,0⟩,⟨0,0⟩⟩))] ((guardP s).map fun y => (.im (IV.tup []),[(0,glassB y.2),(1,imB 83 (cG y.1))])) 2 [0,1] ch0 [] []) (s : List UInt8) :
 FnX CC 27 1 [.off 0 0,.fn f [.pp [.off 0 0]]] [(0,glassB s)] ((listP guardP s).map fun y => (.row 1 y.1.length,[(0,glassB y.2),(1,.row 83 5 cG y.1)])) 2 [0] ch0 [] [] := by
 refine FnX.of_wp _ [(0,0)] [] Tryz.func27 rfl (by kernel_rfl) Tryz.ntmps27 rfl rfl rfl (fun s H' h => by obtain ⟨y,_,e⟩ := Option.map_eq_some_iff.1 h;cases e;rfl) rfl rfl rfl rfl rfl rfl rfl ?_
 intro F vs hD hvs
 obtain ⟨v0,v1,rfl⟩ := len2 hvs
 show WP _ _ _ _ _ ⟨[(0,.is v0 (.off 0 0)),(1,.is v1 (.fn f [.pp [.off 0 0]]))],[(0,glassB s)],1⟩
 (refine zR ?_;refine sI ?_;refine zN ?_)
 (refine zR ?_;refine sI ?_;refine zN ?_)
 refine WP.shift (Shift.row0 5 83 5 cG (fun _ => rfl) rfl) ?_
 cases hp : numP 1 s with
 | none =>
  ((repeat apply WP.seq);apply WP.xreg;refine LX.n (o4 (Ev.is rfl)) rfl ?_;refine LX.p (og [0] ((oD 1 s (by omega)).no (by rw [hp];rfl)) EvsS.a rfl rfl rfl HIn.a) ?_)
  exact ⟨by rw [yl,hp];rfl,rfl,HSb.nil,Kept.nil⟩
 | some y =>
  obtain ⟨n,r0⟩ := y
  have hnr := qb hp
  (refine zR ?_;refine sI ?_;refine ALK.e (o5 [0] ((oD 1 s (by omega)).ok (by rw [hp];rfl)) EvsS.a rfl rfl rfl HIn.a) rfl rfl ?_;refine sI ?_;refine zN ?_)
  refine zB ?_
  refine WP.loop (fun c : Nat × List Guard × List UInt8 => ⟨[(9,.im (IV.int c.1)),(5,.row 1 c.2.1.length),(8,.im (IV.int n)),(0,.is v0 (.off 0 0)),(1,.is v1 (.fn f [.pp [.off 0 0]]))],[(0,glassB c.2.2),(1,.row 83 5 cG c.2.1)],2⟩) (fun c => (c.1 : Int) ≤ n ∧ repP guardP c.1 r0 = some (c.2.1,c.2.2)) (fun c => n.toNat - c.1) (0,[],r0) ⟨hnr.1,rfl⟩ (Shift.sub [(0,0),(1,1)] rfl (SubE.cons rfl SLe.a (SubE.cons rfl SLe.a (SubE.cons rfl SLe.a (SubE.cons rfl SLe.a (SubE.cons rfl (SLe.is (SLe.fn (SLes.cons (SLe.pp (SLes.cons (SLe.off rfl rfl) SLes.nil)) SLes.nil))) SubE.nil))))) (SubH.cons rfl rfl (ObLe.blk SLes.a) (SubH.cons rfl rfl (ObLe.row rfl) SubH.nil))) ?_
  rintro ⟨i,l,r⟩ ⟨hi,hr⟩
  simp only at hi hr
  have hll := jR hr
  (refine zR ?_;refine sI ?_;refine zN ?_)
  refine zC (fun h => ?_) (fun h => ?_)
  ·refine zS ?_
   have hlt : (i : Int) < n := by simpa using h
   refine zB ?_
   (refine zR ?_;refine sI ?_;refine zN ?_)
   cases hq : guardP r with
   | none =>
    ((repeat apply WP.seq);apply WP.xreg;refine LX.n (o4 (Ev.is rfl)) rfl ?_;refine LX.p (ql (args := [.off 1 0]) (caps := [.pp [.off 0 0]]) [0,2] (eB rfl) ((hf r).no (by rw [hq];rfl)) EvsS.a rfl rfl rfl HIn.a) ?_)
    have hz : repP guardP (i + 1) r0 = none := by rw [yJ,oF hr,andP_no hq]
    exact ⟨by rw [yl,hp,Option.bind_some,v7 hz _ (by omega)];rfl,rfl,HSb.nil,Kept.nil⟩
   | some y =>
    obtain ⟨x,r'⟩ := y
    (refine zR ?_;refine sI ?_;refine ALK.e (qo (args := [.off 1 0]) (caps := [.pp [.off 0 0]]) [0,2] (eB rfl) ((hf r).ok (by rw [hq];rfl)) EvsS.a rfl rfl rfl HIn.a) rfl rfl ?_;refine zN ?_)
    (refine zR ?_;(iterate 2 refine sI ?_);refine ALK.n (o6 rfl rfl rfl rfl rfl rfl (Pc rfl (eB rfl) Cs.a rfl rfl Parts.nil) rfl) rfl ?_;refine ALK.e (o8 (b := 40) [x] rfl rfl rfl rfl rfl (eB rfl) (eB rfl) rfl rfl (by simp;omega) rfl) rfl rfl ?_;refine sI ?_;refine zN ?_)
    (refine zR ?_;(iterate 2 refine sI ?_);refine zN ?_)
    show ∃ _,_ ∧ _ ∧ _
    exact ⟨(i + 1,l ++ [x],r'),⟨by simp only;omega,by rw [yJ,oF hr,oF hq];rfl⟩,by simp only;omega,Shift.sub [(0,0),(1,3)] rfl (SubE.cons rfl (SLe.im (ILe.int (by simp only [];omega))) (SubE.cons rfl (SLe.row rfl (by simp)) (SubE.cons rfl SLe.a (SubE.cons rfl SLe.a (SubE.cons rfl (SLe.is (SLe.fn (SLes.cons (SLe.pp (SLes.cons (SLe.off rfl rfl) SLes.nil)) SLes.nil))) SubE.nil))))) (SubH.cons rfl rfl (ObLe.blk SLes.a) (SubH.cons rfl rfl (ObLe.row rfl) SubH.nil))⟩
  ·refine zE ?_
   have hie : i = n.toNat := by simp at h;omega
   subst hie
   (refine zR ?_;(iterate 2 refine sI ?_);refine zN ?_)
   (repeat apply WP.seq)
   refine WP.ret ?_
   exact ⟨_,_,by rw [yl,hp,Option.bind_some,hr];rfl,RetOkE.sv Tryz.results27 rfl HSb.a Kept.a⟩
theorem jq (f : FuncId) (hf : ∀ s,FnX CC f 2 [.off 1 0,.pp [.off 0 0]] [(0,glassB s),(1,imB 90 (cS ⟨0,0,⟨0,0⟩,⟨0,0⟩⟩))] ((setP s).map fun y => (.im (IV.tup []),[(0,glassB y.2),(1,imB 90 (cS y.1))])) 2 [0,1] ch0 [] []) (s : List UInt8) :
 FnX CC 30 1 [.off 0 0,.fn f [.pp [.off 0 0]]] [(0,glassB s)] ((listP setP s).map fun y => (.row 1 y.1.length,[(0,glassB y.2),(1,.row 90 6 cS y.1)])) 2 [0] ch0 [] [] := by
 refine FnX.of_wp _ [(0,0)] [] Tryz.func30 rfl (by kernel_rfl) Tryz.ntmps30 rfl rfl rfl (fun s H' h => by obtain ⟨y,_,e⟩ := Option.map_eq_some_iff.1 h;cases e;rfl) rfl rfl rfl rfl rfl rfl rfl ?_
 intro F vs hD hvs
 obtain ⟨v0,v1,rfl⟩ := len2 hvs
 show WP _ _ _ _ _ ⟨[(0,.is v0 (.off 0 0)),(1,.is v1 (.fn f [.pp [.off 0 0]]))],[(0,glassB s)],1⟩
 (refine zR ?_;refine sI ?_;refine zN ?_)
 (refine zR ?_;refine sI ?_;refine zN ?_)
 refine WP.shift (Shift.row0 5 90 6 cS (fun _ => rfl) rfl) ?_
 cases hp : numP 1 s with
 | none =>
  ((repeat apply WP.seq);apply WP.xreg;refine LX.n (o4 (Ev.is rfl)) rfl ?_;refine LX.p (og [0] ((oD 1 s (by omega)).no (by rw [hp];rfl)) EvsS.a rfl rfl rfl HIn.a) ?_)
  exact ⟨by rw [yl,hp];rfl,rfl,HSb.nil,Kept.nil⟩
 | some y =>
  obtain ⟨n,r0⟩ := y
  have hnr := qb hp
  (refine zR ?_;refine sI ?_;refine ALK.e (o5 [0] ((oD 1 s (by omega)).ok (by rw [hp];rfl)) EvsS.a rfl rfl rfl HIn.a) rfl rfl ?_;refine sI ?_;refine zN ?_)
  refine zB ?_
  refine WP.loop (fun c : Nat × List SetT × List UInt8 => ⟨[(9,.im (IV.int c.1)),(5,.row 1 c.2.1.length),(8,.im (IV.int n)),(0,.is v0 (.off 0 0)),(1,.is v1 (.fn f [.pp [.off 0 0]]))],[(0,glassB c.2.2),(1,.row 90 6 cS c.2.1)],2⟩) (fun c => (c.1 : Int) ≤ n ∧ repP setP c.1 r0 = some (c.2.1,c.2.2)) (fun c => n.toNat - c.1) (0,[],r0) ⟨hnr.1,rfl⟩ (Shift.sub [(0,0),(1,1)] rfl (SubE.cons rfl SLe.a (SubE.cons rfl SLe.a (SubE.cons rfl SLe.a (SubE.cons rfl SLe.a (SubE.cons rfl (SLe.is (SLe.fn (SLes.cons (SLe.pp (SLes.cons (SLe.off rfl rfl) SLes.nil)) SLes.nil))) SubE.nil))))) (SubH.cons rfl rfl (ObLe.blk SLes.a) (SubH.cons rfl rfl (ObLe.row rfl) SubH.nil))) ?_
  rintro ⟨i,l,r⟩ ⟨hi,hr⟩
  simp only at hi hr
  have hll := jR hr
  (refine zR ?_;refine sI ?_;refine zN ?_)
  refine zC (fun h => ?_) (fun h => ?_)
  ·refine zS ?_
   have hlt : (i : Int) < n := by simpa using h
   refine zB ?_
   (refine zR ?_;refine sI ?_;refine zN ?_)
   cases hq : setP r with
   | none =>
    ((repeat apply WP.seq);apply WP.xreg;refine LX.n (o4 (Ev.is rfl)) rfl ?_;refine LX.p (ql (args := [.off 1 0]) (caps := [.pp [.off 0 0]]) [0,2] (eB rfl) ((hf r).no (by rw [hq];rfl)) EvsS.a rfl rfl rfl HIn.a) ?_)
    have hz : repP setP (i + 1) r0 = none := by rw [yJ,oF hr,andP_no hq]
    exact ⟨by rw [yl,hp,Option.bind_some,v7 hz _ (by omega)];rfl,rfl,HSb.nil,Kept.nil⟩
   | some y =>
    obtain ⟨x,r'⟩ := y
    (refine zR ?_;refine sI ?_;refine ALK.e (qo (args := [.off 1 0]) (caps := [.pp [.off 0 0]]) [0,2] (eB rfl) ((hf r).ok (by rw [hq];rfl)) EvsS.a rfl rfl rfl HIn.a) rfl rfl ?_;refine zN ?_)
    (refine zR ?_;(iterate 2 refine sI ?_);refine ALK.n (o6 rfl rfl rfl rfl rfl rfl (Pc rfl (eB rfl) Cs.a rfl rfl Parts.nil) rfl) rfl ?_;refine ALK.e (o8 (b := 48) [x] rfl rfl rfl rfl rfl (eB rfl) (eB rfl) rfl rfl (by simp;omega) rfl) rfl rfl ?_;refine sI ?_;refine zN ?_)
    (refine zR ?_;(iterate 2 refine sI ?_);refine zN ?_)
    show ∃ _,_ ∧ _ ∧ _
    exact ⟨(i + 1,l ++ [x],r'),⟨by simp only;omega,by rw [yJ,oF hr,oF hq];rfl⟩,by simp only;omega,Shift.sub [(0,0),(1,3)] rfl (SubE.cons rfl (SLe.im (ILe.int (by simp only [];omega))) (SubE.cons rfl (SLe.row rfl (by simp)) (SubE.cons rfl SLe.a (SubE.cons rfl SLe.a (SubE.cons rfl (SLe.is (SLe.fn (SLes.cons (SLe.pp (SLes.cons (SLe.off rfl rfl) SLes.nil)) SLes.nil))) SubE.nil))))) (SubH.cons rfl rfl (ObLe.blk SLes.a) (SubH.cons rfl rfl (ObLe.row rfl) SubH.nil))⟩
  ·refine zE ?_
   have hie : i = n.toNat := by simp at h;omega
   subst hie
   (refine zR ?_;(iterate 2 refine sI ?_);refine zN ?_)
   (repeat apply WP.seq)
   refine WP.ret ?_
   exact ⟨_,_,by rw [yl,hp,Option.bind_some,hr];rfl,RetOkE.sv Tryz.results30 rfl HSb.a Kept.a⟩
theorem jM (s : List UInt8) : FnX CC 24 2 [.off 1 0,.pp [.off 0 0]] [(0,glassB s),(1,imB 75 nilT)] ((txnP s).map fun y => (.im (IV.tup []),[(0,glassB y.2),(1,imB 75 (cT y.1))])) 2 [0,1] ch0 [] [] := by
 refine FnX.of_wp _ [(0,1),(1,0)] [] Tryz.func24 rfl (by kernel_rfl) Tryz.ntmps24 rfl rfl rfl (fun s H' h => by obtain ⟨y,_,e⟩ := Option.map_eq_some_iff.1 h;cases e;rfl) rfl rfl rfl rfl rfl rfl rfl ?_
 intro F vs hD hvs
 obtain ⟨v0,v1,rfl⟩ := len2 hvs
 show WP _ _ _ _ _ ⟨[(0,.is v0 (.off 1 0)),(1,.is v1 (.pp [.off 0 0]))],[(0,glassB s),(1,imB 75 nilT)],2⟩
 cases h1 : listP (numP 1) s with
 | none =>
  ((repeat apply WP.seq);apply WP.xreg;refine LX.n (o4 (Ev.is rfl)) rfl ?_;refine LX.n (oe rfl rfl (Ev.is rfl) rfl) rfl ?_;refine LX.n (oN (l := [.pp [.off 0 0]]) EvsS.a) rfl ?_;refine LX.p (og [0] ((ju _ jx _).no (by rw [h1];rfl)) EvsS.a rfl rfl rfl HIn.a) ?_)
  exact ⟨by rw [txnP_cut,h1];rfl,rfl,HSb.nil,Kept.nil⟩
 | some y =>
  obtain ⟨x,r1⟩ := y
  (refine zR ?_;refine sI ?_;refine ALK.n (oe rfl rfl (Ev.is rfl) rfl) rfl ?_;refine ALK.n (oN (l := [.pp [.off 0 0]]) EvsS.a) rfl ?_;refine ALK.e (o5 [0] ((ju _ jx _).ok (by rw [h1];rfl)) EvsS.a rfl rfl rfl HIn.a) rfl rfl ?_;refine sI ?_;refine fI 0 ?_;refine sI ?_;refine zN ?_)
  refine WP.shift (Shift.frzIn 1 0 rfl rfl rfl rfl) ?_
  cases h2 : listP guardP r1 with
  | none =>
   ((repeat apply WP.seq);apply WP.xreg;refine LX.n (o4 (Ev.is rfl)) rfl ?_;refine LX.n (oe rfl rfl (Ev.is rfl) rfl) rfl ?_;refine LX.n (oN (l := [.pp [.off 0 0]]) EvsS.a) rfl ?_;refine LX.p (og [0] ((qq _ qM _).no (by rw [h2];rfl)) EvsS.a rfl rfl rfl HIn.a) ?_)
   exact ⟨by rw [txnP_cut,h1,Option.bind_some,h2];rfl,rfl,HSb.nil,Kept.nil⟩
  | some y =>
   obtain ⟨z,r2⟩ := y
   (refine zR ?_;refine sI ?_;refine ALK.n (oe rfl rfl (Ev.is rfl) rfl) rfl ?_;refine ALK.n (oN (l := [.pp [.off 0 0]]) EvsS.a) rfl ?_;refine ALK.e (o5 [0] ((qq _ qM _).ok (by rw [h2];rfl)) EvsS.a rfl rfl rfl HIn.a) rfl rfl ?_;refine sI ?_;refine fI 1 ?_;refine sI ?_;refine zN ?_)
   refine WP.shift (Shift.frzIn 1 1 rfl rfl rfl rfl) ?_
   cases h3 : listP setP r2 with
   | none =>
    ((repeat apply WP.seq);apply WP.xreg;refine LX.n (o4 (Ev.is rfl)) rfl ?_;refine LX.n (oe rfl rfl (Ev.is rfl) rfl) rfl ?_;refine LX.n (oN (l := [.pp [.off 0 0]]) EvsS.a) rfl ?_;refine LX.p (og [0] ((jq _ jQ _).no (by rw [h3];rfl)) EvsS.a rfl rfl rfl HIn.a) ?_)
    exact ⟨by rw [txnP_cut,h1,Option.bind_some,h2,Option.bind_some,h3];rfl,rfl,HSb.nil,Kept.nil⟩
   | some y =>
    obtain ⟨a,r3⟩ := y
    refine WP.post ?_
    (refine zR ?_;refine sI ?_;refine ALK.n (oe rfl rfl (Ev.is rfl) rfl) rfl ?_;refine ALK.n (oN (l := [.pp [.off 0 0]]) EvsS.a) rfl ?_;refine ALK.e (o5 [0] ((jq _ jQ _).ok (by rw [h3];rfl)) EvsS.a rfl rfl rfl HIn.a) rfl rfl ?_;refine sI ?_;refine fI 2 ?_;refine sI ?_;refine zN ?_)
    exact ⟨_,Shift.frzIn 1 2 rfl rfl rfl rfl,_,_,by rw [txnP_cut,h1,Option.bind_some,h2,Option.bind_some,h3];rfl,RetOkE.none Tryz.results24 HSb.a Kept.a⟩
theorem jv (f : FuncId) (hf : ∀ s,FnX CC f 2 [.off 1 0,.pp [.off 0 0]] [(0,glassB s),(1,imB 75 nilT)] ((txnP s).map fun y => (.im (IV.tup []),[(0,glassB y.2),(1,imB 75 (cT y.1))])) 2 [0,1] ch0 [] []) (s : List UInt8) :
 FnX CC 23 1 [.off 0 0,.fn f [.pp [.off 0 0]]] [(0,glassB s)] ((listP txnP s).map fun y => (.row 1 y.1.length,[(0,glassB y.2),(1,.row 75 3 cT y.1)])) 2 [0] ch0 [] [] := by
 refine FnX.of_wp _ [(0,0)] [] Tryz.func23 rfl (by kernel_rfl) Tryz.ntmps23 rfl rfl rfl (fun s H' h => by obtain ⟨y,_,e⟩ := Option.map_eq_some_iff.1 h;cases e;rfl) rfl rfl rfl rfl rfl rfl rfl ?_
 intro F vs hD hvs
 obtain ⟨v0,v1,rfl⟩ := len2 hvs
 show WP _ _ _ _ _ ⟨[(0,.is v0 (.off 0 0)),(1,.is v1 (.fn f [.pp [.off 0 0]]))],[(0,glassB s)],1⟩
 (refine zR ?_;refine sI ?_;refine zN ?_)
 (refine zR ?_;refine sI ?_;refine zN ?_)
 refine WP.shift (Shift.row0 5 75 3 cT (fun _ => rfl) rfl) ?_
 cases hp : numP 1 s with
 | none =>
  ((repeat apply WP.seq);apply WP.xreg;refine LX.n (o4 (Ev.is rfl)) rfl ?_;refine LX.p (og [0] ((oD 1 s (by omega)).no (by rw [hp];rfl)) EvsS.a rfl rfl rfl HIn.a) ?_)
  exact ⟨by rw [yl,hp];rfl,rfl,HSb.nil,Kept.nil⟩
 | some y =>
  obtain ⟨n,r0⟩ := y
  have hnr := qb hp
  (refine zR ?_;refine sI ?_;refine ALK.e (o5 [0] ((oD 1 s (by omega)).ok (by rw [hp];rfl)) EvsS.a rfl rfl rfl HIn.a) rfl rfl ?_;refine sI ?_;refine zN ?_)
  refine zB ?_
  refine WP.loop (fun c : Nat × List Txn × List UInt8 => ⟨[(9,.im (IV.int c.1)),(5,.row 1 c.2.1.length),(8,.im (IV.int n)),(0,.is v0 (.off 0 0)),(1,.is v1 (.fn f [.pp [.off 0 0]]))],[(0,glassB c.2.2),(1,.row 75 3 cT c.2.1)],2⟩) (fun c => (c.1 : Int) ≤ n ∧ repP txnP c.1 r0 = some (c.2.1,c.2.2)) (fun c => n.toNat - c.1) (0,[],r0) ⟨hnr.1,rfl⟩ (Shift.sub [(0,0),(1,1)] rfl (SubE.cons rfl SLe.a (SubE.cons rfl SLe.a (SubE.cons rfl SLe.a (SubE.cons rfl SLe.a (SubE.cons rfl (SLe.is (SLe.fn (SLes.cons (SLe.pp (SLes.cons (SLe.off rfl rfl) SLes.nil)) SLes.nil))) SubE.nil))))) (SubH.cons rfl rfl (ObLe.blk SLes.a) (SubH.cons rfl rfl (ObLe.row rfl) SubH.nil))) ?_
  rintro ⟨i,l,r⟩ ⟨hi,hr⟩
  simp only at hi hr
  have hll := jR hr
  (refine zR ?_;refine sI ?_;refine zN ?_)
  refine zC (fun h => ?_) (fun h => ?_)
  ·refine zS ?_
   have hlt : (i : Int) < n := by simpa using h
   refine zB ?_
   (refine zR ?_;refine sI ?_;refine zN ?_)
   cases hq : txnP r with
   | none =>
    ((repeat apply WP.seq);apply WP.xreg;refine LX.n (o4 (Ev.is rfl)) rfl ?_;refine LX.p (ql (args := [.off 1 0]) (caps := [.pp [.off 0 0]]) [0,2] (eB rfl) ((hf r).no (by rw [hq];rfl)) EvsS.a rfl rfl rfl HIn.a) ?_)
    have hz : repP txnP (i + 1) r0 = none := by rw [yJ,oF hr,andP_no hq]
    exact ⟨by rw [yl,hp,Option.bind_some,v7 hz _ (by omega)];rfl,rfl,HSb.nil,Kept.nil⟩
   | some y =>
    obtain ⟨x,r'⟩ := y
    (refine zR ?_;refine sI ?_;refine ALK.e (qo (args := [.off 1 0]) (caps := [.pp [.off 0 0]]) [0,2] (eB rfl) ((hf r).ok (by rw [hq];rfl)) EvsS.a rfl rfl rfl HIn.a) rfl rfl ?_;refine zN ?_)
    (refine zR ?_;(iterate 2 refine sI ?_);refine ALK.n (o6 rfl rfl rfl rfl rfl rfl (Pc rfl (eB rfl) Cs.a rfl rfl Parts.nil) rfl) rfl ?_;refine ALK.e (o8 (b := 72) [x] rfl rfl rfl rfl rfl (eB rfl) (eB rfl) rfl rfl (by simp;omega) rfl) rfl rfl ?_;refine sI ?_;refine zN ?_)
    (refine zR ?_;(iterate 2 refine sI ?_);refine zN ?_)
    show ∃ _,_ ∧ _ ∧ _
    exact ⟨(i + 1,l ++ [x],r'),⟨by simp only;omega,by rw [yJ,oF hr,oF hq];rfl⟩,by simp only;omega,Shift.sub [(0,0),(1,3)] rfl (SubE.cons rfl (SLe.im (ILe.int (by simp only [];omega))) (SubE.cons rfl (SLe.row rfl (by simp)) (SubE.cons rfl SLe.a (SubE.cons rfl SLe.a (SubE.cons rfl (SLe.is (SLe.fn (SLes.cons (SLe.pp (SLes.cons (SLe.off rfl rfl) SLes.nil)) SLes.nil))) SubE.nil))))) (SubH.cons rfl rfl (ObLe.blk SLes.a) (SubH.cons rfl rfl (ObLe.row rfl) SubH.nil))⟩
  ·refine zE ?_
   have hie : i = n.toNat := by simp at h;omega
   subst hie
   (refine zR ?_;(iterate 2 refine sI ?_);refine zN ?_)
   (repeat apply WP.seq)
   refine WP.ret ?_
   exact ⟨_,_,by rw [yl,hp,Option.bind_some,hr];rfl,RetOkE.sv Tryz.results23 rfl HSb.a Kept.a⟩
end Go.Proofs.YtjgmbgfcffnanaaGreatDoor
