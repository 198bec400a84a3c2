/- Package wire: numbers, and what they are read into; they panic where too little is left. -/
import Derived.Test.YtjgmbgfcffnanaaGreatDoorZ19
set_option maxRecDepth 100000
namespace Go.Proofs.YtjgmbgfcffnanaaGreatDoor
open Go.RowKit
abbrev glassB (s : List UInt8) : HObj := .blk 68 [.im (IV.str s)]
def ch0 : Chain := [{ v := .iface 96 (.agg #[]),recovered := false }]
theorem numP_some {k : Nat} {s : List UInt8} (h : k ≤ s.length) : numP k s = some ((s.take k).foldl sh8 0,s.drop k) := by
 unfold numP;rw [if_neg (by omega)]
theorem numP_none {k : Nat} {s : List UInt8} (h : s.length < k) : numP k s = none := by
 unfold numP;rw [if_pos h]
theorem foldl_take {s : List UInt8} {k : Nat} {b : UInt8} (h : s[k]? = some b) : (s.take (k + 1)).foldl sh8 0 = wrap64 ((s.take k).foldl sh8 0 * 256 + b.toNat) := by
 rw [oM h,List.foldl_append];rfl
theorem oD (k : Nat) (s : List UInt8) (hk8 : k ≤ 8) : FnX CC 78 1 [.off 0 0,.im (IV.int k)] [(0,glassB s)] ((numP k s).map fun y => (.im (IV.int y.1),[(0,glassB y.2)])) 1 [0] ch0 [(0,glassB s)] [0] := by
 refine FnX.of_wp _ [(0,0)] [(0,0)] Tryz.func78 rfl (by kernel_rfl) Tryz.ntmps78 rfl rfl rfl (fun s H' h => by obtain ⟨y,_,e⟩ := Option.map_eq_some_iff.1 h;cases e;rfl) rfl rfl rfl rfl rfl rfl rfl ?_
 intro F vs hD hvs
 obtain ⟨v0,v1,rfl⟩ := len2 hvs
 show WP _ _ _ _ _ ⟨[(0,.is v0 (.off 0 0)),(1,.im (IV.int k))],[(0,glassB s)],1⟩
 (refine zR ?_;refine sI ?_;refine zN ?_)
 (refine zR ?_;(iterate 2 refine sI ?_);refine fI 0 ?_;refine sI ?_;refine ALK.n (oJ rfl (eB rfl)) rfl ?_;(iterate 2 refine sI ?_);refine zN ?_)
 refine zC (fun h => ?_) (fun h => ?_)
 ·have hlt : s.length < k := by simp at h;omega
  ((repeat apply WP.seq);apply WP.xreg;(first | refine LX.n (yC rfl rfl rfl rfl Parts.nil) rfl ?_ | refine LX.n (yu rfl rfl rfl rfl rfl Parts.nil) rfl ?_);refine LX.n (opn_mkIface0 (by kernel_rfl) (eB rfl)) rfl ?_;refine LX.p (opp_panic (eB rfl) ⟨_,_,rfl⟩ rfl) ?_)
  exact ⟨by rw [numP_none hlt];rfl,rfl,HSb.a,Kept.a⟩
 ·refine zS ?_
  have hge : k ≤ s.length := by simp at h;omega
  clear h
  (refine zR ?_;refine sI ?_;refine zN ?_)
  (refine zR ?_;(iterate 2 refine sI ?_);refine zN ?_)
  refine zB ?_
  refine WP.loop (fun i : Nat => ⟨[(5,.im (IV.int ((s.take i).foldl sh8 0))),(17,.im (IV.int i)),(16,.im (IV.int k)),(0,.is v0 (.off 0 0)),(1,.im (IV.int k))],[(0,glassB s)],1⟩) (fun i => i ≤ k) (fun i => k - i) 0 (Nat.zero_le _) (Shift.sub [(0,0)] rfl SubE.a (SubH.cons rfl rfl (ObLe.blk SLes.a) SubH.nil)) ?_
  rintro i hi
  (refine zR ?_;refine sI ?_;refine zN ?_)
  refine zC (fun h => ?_) (fun h => ?_)
  ·refine zS ?_
   have hik : i < k := by simpa using h
   obtain ⟨b,hb⟩ := oc (xs := s) (k := i) (by omega)
   have hb' : s[((i : Nat) : Int).toNat]? = some b := by simpa using hb
   have hb2 := UInt8.toNat_lt b
   refine zB ?_
   (refine zR ?_;(iterate 2 refine sI ?_);refine zN ?_)
   (refine zR ?_;refine sI ?_;refine ALK.n (opn_shl (n := 8) (eB rfl) (eB rfl) rfl (by omega)) rfl ?_;(iterate 2 refine sI ?_);refine fI 0 ?_;(iterate 2 refine sI ?_);refine ALK.n (yd rfl (eB rfl) (eB rfl) (by omega) (by assumption)) rfl ?_;(first | refine ALK.n (y1 (by kernel_rfl) (by kernel_rfl) (by kernel_rfl) (eB rfl)) rfl ?_ | refine ALK.n (oZ (by kernel_rfl) (by kernel_rfl) (by kernel_rfl) (eB rfl)) rfl ?_);refine ALK.n (opn_or8 (a := (s.take i).foldl sh8 0) (eB rfl) (eB rfl) rfl (by omega) (by omega)) rfl ?_;refine sI ?_;refine zN ?_)
   (refine zR ?_;(iterate 2 refine sI ?_);refine zN ?_)
   show ∃ _,_ ∧ _ ∧ _
   exact ⟨i + 1,by omega,by omega,Shift.sub [(0,0)] rfl (SubE.cons rfl (SLe.im (ILe.int (foldl_take hb).symm)) SubE.a) (SubH.cons rfl rfl (ObLe.blk SLes.a) SubH.nil)⟩
  ·refine zE ?_
   have hik : i = k := by simp at h;omega
   subst hik
   (refine zR ?_;(iterate 3 refine sI ?_);refine fI 0 ?_;(iterate 2 refine sI ?_);refine ALK.n (opn_sliceStr (k := i) rfl (eB rfl) (eB rfl) (by omega)) rfl ?_;refine sI ?_;refine fI 0 ?_;refine sI ?_;refine zN ?_)
   (refine zR ?_;(iterate 2 refine sI ?_);refine zN ?_)
   (repeat apply WP.seq)
   refine WP.ret ?_
   refine ⟨_,_,by rw [numP_some hge];rfl,?_⟩
   exact RetOkE.one Tryz.results78 ResV.a HSb.a Kept.a
def intoP : List Nat → List UInt8 → List IV → Option (List UInt8 × List IV)
 | [],s,l => some (s,l)
 | o :: os,s,l => (numP 1 s).bind fun y => intoP os y.2 (l.set o (IV.int y.1))
theorem y3 (o : Nat) (os : List Nat) (s : List UInt8) (l : List IV) : intoP (o :: os) s l = (numP 1 s).bind fun y => intoP os y.2 (l.set o (IV.int y.1)) := rfl
abbrev imB (t : TypeId) (l : List IV) : HObj := .blk t (l.map SV.im)
theorem uJ (os : List Nat) (s : List UInt8) (t : TypeId) (l : List IV) (hos : os ≠ []) (ho : ∀ o ∈ os,o < l.length) (hn : os.length ≤ 100) : FnX CC 22 2 [.off 0 0,.pk os.length (os.map (SV.off 1))] [(0,glassB s),(1,imB t l)] ((intoP os s l).map fun y => (.im (IV.tup []),[(0,glassB y.1),(1,imB t y.2)])) 2 [0,1] ch0 [] [] := by
 refine FnX.of_wp _ [(0,0),(1,1)] [] Tryz.func22 rfl (by kernel_rfl) Tryz.ntmps22 rfl (by simp only [SV.nms,SV.nm,nms_offs (p := ltB 2) (i := 1) rfl];rfl) (by simp [hOk,HObj.nm,HObj.nbP,SV.nms,SV.nm,ltB,nms_ims]) (fun s H' h => by
  obtain ⟨y,_,e⟩ := Option.map_eq_some_iff.1 h
  cases e
  simp [hOk,HObj.nm,HObj.nbP,SV.nms,SV.nm,pnB,nms_ims,pinOk,SV.pinS,SV.pinW,pinWs_offs hos,isBlk,hget]) rfl rfl rfl rfl rfl rfl rfl ?_
 intro F vs hD hvs
 obtain ⟨v0,v1,rfl⟩ := len2 hvs
 show WP _ _ _ _ _ ⟨[(0,.is v0 (.off 0 0)),(1,.is v1 (.pk os.length (os.map (SV.off 1))))],[(0,glassB s),(1,imB t l)],2⟩
 (refine zR ?_;refine sI ?_;refine ALK.n (opn_lenPk rfl (eB rfl)) rfl ?_;refine sI ?_;refine zN ?_)
 refine zB ?_
 refine WP.loop (fun c : Nat × List UInt8 × List IV => ⟨[(8,.im (IV.int c.1)),(7,.im (IV.int os.length)),(6,.pk os.length (os.map (SV.off 1))),(0,.is v0 (.off 0 0)),(1,.is v1 (.pk os.length (os.map (SV.off 1))))],[(0,glassB c.2.1),(1,imB t c.2.2)],2⟩) (fun c => c.1 ≤ os.length ∧ intoP os s l = intoP (os.drop c.1) c.2.1 c.2.2 ∧ c.2.2.length = l.length) (fun c => os.length - c.1) (0,s,l) ⟨Nat.zero_le _,rfl,rfl⟩ (Shift.sub [(0,0),(1,1)] rfl (SubE.cons rfl SLe.a (SubE.cons rfl SLe.a (SubE.cons rfl (SLe.pk (SLes.offs rfl _)) (SubE.cons rfl SLe.a (SubE.cons rfl (SLe.is (SLe.pk (SLes.offs rfl _))) SubE.nil))))) (SubH.cons rfl rfl (ObLe.blk SLes.a) (SubH.cons rfl rfl (ObLe.blk (SLes.ims _)) SubH.nil))) ?_
 rintro ⟨k,r,c⟩ ⟨hk,he,hc⟩
 simp only at hk he hc
 (refine zR ?_;refine sI ?_;refine zN ?_)
 refine zC (fun h => ?_) (fun h => ?_)
 ·refine zS ?_
  have hlt : k < os.length := by simpa using h
  obtain ⟨o,hq⟩ := oc hlt
  have hdr : os.drop k = o :: os.drop (k + 1) := by
   rw [List.drop_eq_getElem_cons hlt]
   rw [List.getElem?_eq_getElem hlt] at hq
   injection hq with hq
   rw [hq]
  have hol : o < c.length := by rw [hc];exact ho o (List.mem_of_getElem? hq)
  have hpk : ((os.map (SV.off 1)).drop (((k : Nat) : Int).toNat)).head? = some (.off 1 o) := by
   rw [Int.toNat_natCast,← List.map_drop,hdr];rfl
  rw [hdr,y3] at he
  refine zB ?_
  (refine zR ?_;refine ALK.n (jI rfl (eB rfl) (eB rfl) (by omega) (by omega)) rfl ?_;refine ALK.n (oe rfl rfl (eB rfl) hpk) rfl ?_;refine sI ?_;refine zN ?_)
  cases hp : numP 1 r with
  | none =>
   ((repeat apply WP.seq);apply WP.xreg;refine LX.n (o4 (eB rfl)) rfl ?_;refine LX.n (o4 (Ev.is rfl)) rfl ?_;refine LX.p (og [0] ((oD 1 r (by omega)).no (by rw [hp];rfl)) EvsS.a rfl rfl rfl HIn.a) ?_)
   exact ⟨by rw [he,hp];rfl,rfl,HSb.nil,Kept.nil⟩
  | some y =>
   obtain ⟨n,r'⟩ := y
   rw [hp] at he
   simp only [Option.bind_some] at he
   (refine zR ?_;(iterate 2 refine sI ?_);refine ALK.e (o5 [0] ((oD 1 r (by omega)).ok (by rw [hp];rfl)) EvsS.a rfl rfl rfl HIn.a) rfl rfl ?_;refine sI ?_;refine ALK.e (oz (o := o) rfl (eB rfl) (eB rfl) Cs.a rfl rfl (by simp;omega)) rfl rfl ?_;refine zN ?_)
   (refine zR ?_;(iterate 2 refine sI ?_);refine zN ?_)
   show ∃ _,_ ∧ _ ∧ _
   exact ⟨(k + 1,r',c.set o (IV.int n)),⟨by simp only;omega,he,by simp only [List.length_set];exact hc⟩,by simp only;omega,Shift.sub [(0,0),(1,1)] rfl (SubE.cons rfl (SLe.im (ILe.int (by simp only [];omega))) (SubE.cons rfl SLe.a (SubE.cons rfl (SLe.pk (SLes.offs rfl _)) (SubE.cons rfl SLe.a (SubE.cons rfl (SLe.is (SLe.pk (SLes.offs rfl _))) SubE.nil))))) (SubH.cons rfl rfl (ObLe.blk SLes.a) (SubH.cons rfl rfl (ObLe.blk (SLes.imsEq (ovr_ims _ _ _))) SubH.nil))⟩
 ·have hke : k = os.length := by simp at h;omega
  subst hke
  rw [List.drop_length] at he
  refine WP.exit ?_
  exact ⟨_,_,by rw [he];rfl,RetOkE.none Tryz.results22 HSb.a Kept.a⟩
def opsP : List Nat → List UInt8 → List IV → Option (List UInt8 × List IV)
 | [],s,l => some (s,l)
 | o :: os,s,l => (opP s).bind fun y => opsP os y.2 ((l.set o (IV.int y.1.kind)).set (o + 1) (IV.int y.1.n))
theorem yB (o : Nat) (os : List Nat) (s : List UInt8) (l : List IV) : opsP (o :: os) s l = (opP s).bind fun y => opsP os y.2 ((l.set o (IV.int y.1.kind)).set (o + 1) (IV.int y.1.n)) := rfl
theorem opP_cut (s : List UInt8) : opP s = (numP 1 s).bind fun y => (numP 8 y.2).bind fun z => some (⟨y.1,z.1⟩,z.2) := rfl
theorem hren_gl {f : Nat → Nat} {i j : Nat} {t : TypeId} {s : List UInt8} {l : List IV} : hren f [(i,glassB s),(j,imB t l)] = [(f i,glassB s),(f j,imB t l)] := by
 simp only [hren,HObj.rn,rns_ims,imB,glassB,SV.rns,SV.rn]
theorem js (os : List Nat) (s : List UInt8) (t : TypeId) (l : List IV) (hos : os ≠ []) (ho : ∀ o ∈ os,o + 1 < l.length) (hn : os.length ≤ 100) : FnX CC 29 2 [.off 0 0,.pk os.length (os.map (SV.off 1))] [(0,glassB s),(1,imB t l)] ((opsP os s l).map fun y => (.im (IV.tup []),[(0,glassB y.1),(1,imB t y.2)])) 2 [0,1] ch0 [] [] := by
 refine FnX.of_wp _ [(0,0),(1,1)] [] Tryz.func29 rfl (by kernel_rfl) Tryz.ntmps29 rfl (by simp only [SV.nms,SV.nm,nms_offs (p := ltB 2) (i := 1) rfl];rfl) (by simp [hOk,HObj.nm,HObj.nbP,SV.nms,SV.nm,ltB,nms_ims]) (fun s H' h => by
  obtain ⟨y,_,e⟩ := Option.map_eq_some_iff.1 h
  cases e
  simp [hOk,HObj.nm,HObj.nbP,SV.nms,SV.nm,pnB,nms_ims,pinOk,SV.pinS,SV.pinW,pinWs_offs hos,isBlk,hget]) rfl rfl rfl rfl rfl rfl rfl ?_
 intro F vs hD hvs
 obtain ⟨v0,v1,rfl⟩ := len2 hvs
 show WP _ _ _ _ _ ⟨[(0,.is v0 (.off 0 0)),(1,.is v1 (.pk os.length (os.map (SV.off 1))))],[(0,glassB s),(1,imB t l)],2⟩
 (refine zR ?_;refine sI ?_;refine ALK.n (opn_lenPk rfl (eB rfl)) rfl ?_;refine sI ?_;refine zN ?_)
 refine zB ?_
 refine WP.loop (fun c : Nat × List UInt8 × List IV => ⟨[(8,.im (IV.int c.1)),(7,.im (IV.int os.length)),(6,.pk os.length (os.map (SV.off 1))),(0,.is v0 (.off 0 0)),(1,.is v1 (.pk os.length (os.map (SV.off 1))))],[(0,glassB c.2.1),(1,imB t c.2.2)],2⟩) (fun c => c.1 ≤ os.length ∧ opsP os s l = opsP (os.drop c.1) c.2.1 c.2.2 ∧ c.2.2.length = l.length) (fun c => os.length - c.1) (0,s,l) ⟨Nat.zero_le _,rfl,rfl⟩ (Shift.sub [(0,0),(1,1)] rfl (SubE.cons rfl SLe.a (SubE.cons rfl SLe.a (SubE.cons rfl (SLe.pk (SLes.offs rfl _)) (SubE.cons rfl SLe.a (SubE.cons rfl (SLe.is (SLe.pk (SLes.offs rfl _))) SubE.nil))))) (SubH.cons rfl rfl (ObLe.blk SLes.a) (SubH.cons rfl rfl (ObLe.blk (SLes.ims _)) SubH.nil))) ?_
 rintro ⟨k,r,c⟩ ⟨hk,he,hc⟩
 simp only at hk he hc
 (refine zR ?_;refine sI ?_;refine zN ?_)
 refine zC (fun h => ?_) (fun h => ?_)
 ·refine zS ?_
  have hlt : k < os.length := by simpa using h
  obtain ⟨o,hq⟩ := oc hlt
  have hdr : os.drop k = o :: os.drop (k + 1) := by
   rw [List.drop_eq_getElem_cons hlt]
   rw [List.getElem?_eq_getElem hlt] at hq
   injection hq with hq
   rw [hq]
  have hol : o + 1 < c.length := by rw [hc];exact ho o (List.mem_of_getElem? hq)
  have hpk : ((os.map (SV.off 1)).drop (((k : Nat) : Int).toNat)).head? = some (.off 1 o) := by
   rw [Int.toNat_natCast,← List.map_drop,hdr];rfl
  rw [hdr,yB,opP_cut] at he
  refine zB ?_
  (refine zR ?_;refine ALK.n (jI rfl (eB rfl) (eB rfl) (by omega) (by omega)) rfl ?_;refine ALK.n (oe rfl rfl (eB rfl) hpk) rfl ?_;refine sI ?_;refine zN ?_)
  have hX := uJ [o + 0] r t c (by simp) (by simp;omega) (by simp)
  have hIn : ∀ f : Nat → Nat,f 0 = 0 → f 1 = 1 → HIn f [(0,glassB r),(1,imB t c)] [(0,glassB r),(1,imB t c)] := fun f h0 h1 => .cons (by rw [h0];rfl) (.cons (by rw [h1];simp only [HObj.rn,imB,rns_ims];rfl) .nil)
  cases hp : numP 1 r with
  | none =>
   ((repeat apply WP.seq);apply WP.xreg;refine LX.n (o4 (Ev.is rfl)) rfl ?_;refine LX.n (o4 (eB rfl)) rfl ?_;(first | refine LX.n (yO (eB rfl)) rfl ?_ | refine LX.n (ja (eB rfl)) rfl ?_);(first | refine LX.n (qU (o := 0) rfl (eB rfl)) rfl ?_ | refine LX.n (ou (o := 0) rfl (eB rfl)) rfl ?_);refine LX.n (od rfl rfl rfl rfl rfl rfl (Pc rfl (eB rfl) Cs.a rfl rfl Parts.nil)) rfl ?_;refine LX.p (og [0,1] (hX.no (by rw [y3,hp];rfl)) EvsS.a rfl rfl rfl (hIn _ rfl rfl)) ?_)
   exact ⟨by rw [he,hp];rfl,rfl,HSb.nil,Kept.nil⟩
  | some y =>
   obtain ⟨n,r'⟩ := y
   rw [hp] at he
   simp only [Option.bind_some] at he
   (refine zR ?_;(iterate 3 refine sI ?_);refine fI 0 ?_;refine ALK.n (od rfl rfl rfl rfl rfl rfl (Pc rfl (eB rfl) Cs.a rfl rfl Parts.nil)) rfl ?_;refine ALK.e (j6 [0,1] [(0,glassB r'),(1,imB t (c.set o (IV.int n)))] (.im (IV.tup [])) 2 (hX.ok (by rw [y3,hp];rfl)) EvsS.a (hIn _ rfl rfl) rfl (by rw [hren_gl];rfl) rfl rfl rfl rfl rfl) rfl rfl ?_;refine zN ?_)
   cases hp8 : numP 8 r' with
   | none =>
    ((repeat apply WP.seq);apply WP.xreg;refine LX.n (o4 (eB rfl)) rfl ?_;refine LX.n (o4 (Ev.is rfl)) rfl ?_;refine LX.p (og [0] ((oD 8 r' (by omega)).no (by rw [hp8];rfl)) EvsS.a rfl rfl rfl HIn.a) ?_)
    exact ⟨by rw [he,hp8];rfl,rfl,HSb.nil,Kept.nil⟩
   | some y8 =>
    obtain ⟨m,r8⟩ := y8
    rw [hp8] at he
    simp only [Option.bind_some] at he
    (refine zR ?_;(iterate 2 refine sI ?_);refine ALK.e (o5 [0] ((oD 8 r' (by omega)).ok (by rw [hp8];rfl)) EvsS.a rfl rfl rfl HIn.a) rfl rfl ?_;refine sI ?_;refine fI 1 ?_;refine ALK.e (oz (o := o + 1) rfl (eB rfl) (eB rfl) Cs.a rfl rfl (by simp;omega)) rfl rfl ?_;refine zN ?_)
    (refine zR ?_;(iterate 2 refine sI ?_);refine zN ?_)
    show ∃ _,_ ∧ _ ∧ _
    exact ⟨(k + 1,r8,(c.set o (IV.int n)).set (o + 1) (IV.int m)),⟨by simp only;omega,he,by simp only [List.length_set];exact hc⟩,by simp only;omega,Shift.sub [(0,0),(1,1)] rfl (SubE.cons rfl (SLe.im (ILe.int (by simp only [];omega))) (SubE.cons rfl SLe.a (SubE.cons rfl (SLe.pk (SLes.offs rfl _)) (SubE.cons rfl SLe.a (SubE.cons rfl (SLe.is (SLe.pk (SLes.offs rfl _))) SubE.nil))))) (SubH.cons rfl rfl (ObLe.blk SLes.a) (SubH.cons rfl rfl (ObLe.blk (SLes.imsEq (ovr_ims _ _ _))) SubH.nil))⟩
 ·have hke : k = os.length := by simp at h;omega
  subst hke
  rw [List.drop_length] at he
  refine WP.exit ?_
  exact ⟨_,_,by rw [he];rfl,RetOkE.none Tryz.results29 HSb.a Kept.a⟩
end Go.Proofs.YtjgmbgfcffnanaaGreatDoor
