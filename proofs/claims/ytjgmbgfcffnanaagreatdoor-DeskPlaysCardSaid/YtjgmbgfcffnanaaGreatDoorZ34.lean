/- The reference: a line. -/
import Derived.Test.YtjgmbgfcffnanaaGreatDoorZ27
import Derived.Test.YtjgmbgfcffnanaaGreatDoorZ30
import Derived.Test.YtjgmbgfcffnanaaGreatDoorZ33
set_option maxRecDepth 100000
set_option maxHeartbeats 4000000
namespace Go.Proofs.YtjgmbgfcffnanaaGreatDoor
open Go.RowKit
def cDk (p : Plan) (d : Dk) : List IV := cP p ++ [intsV d.first] ++ cSt d.s
def tabH (t : Nat) (p : Plan) (d : Dk) : List Ent := [(0,imB t (cDk p d))]
theorem yb {p : Plan} {d : Dk} {l w a b : List UInt8} (hs : splitS l = [w,a,b]) : lineS p d l = wordsS p d w a b := by
 have h1 : l ≠ sCan := fun e => by subst e;cases hs
 have h2 : l ≠ sStore := fun e => by subst e;cases hs
 have h3 : l ≠ sRest := fun e => by subst e;cases hs
 have h4 : l ≠ sAudit := fun e => by subst e;cases hs
 unfold lineS
 rw [if_neg h1,if_neg h2,if_neg h3,if_neg h4,hs]
 rfl
theorem uH {p : Plan} {d : Dk} {w a b : List UInt8} (hi : idxW w ≠ -1) (h : numS a = none ∨ numS b = none) : wordsS p d w a b = (errT 1,d) := by
 unfold wordsS
 rw [if_neg hi]
 rcases h with h | h
 ·rw [h]
 ·rw [h];cases numS a <;> rfl
theorem yk {p : Plan} {d : Dk} {w a b : List UInt8} (hi : idxW w ≠ -1) {x y : Int} (h : numS a = some x) (k : numS b = some y) : wordsS p d w a b = actS p d (idxW w) x y := by
 unfold wordsS
 rw [if_neg hi,h,k]
theorem numRn_I (s : List UInt8) : I64 (numRn s) := by
 obtain ⟨r1,r2⟩ := vA s
 unfold numRn I64
 split
 ·omega
 ·rename_i hl
  have r3 := pow10_le (i := s.length) (by omega)
  split <;> omega
theorem given_put (p : Plan) (d : Dk) (l a b : List UInt8) (g : Good p d) (_ : TxsB p.txns) (hl : l.length ≤ 100000) (hs : splitS l = [sPut,a,b]) :
 FnE CC 18 1 [.off 0 0,.im (IV.str l)] (tabH 62 p d) (.im (IV.str (lineS p d l).1)) (tabH 62 p (lineS p d l).2) 1 [0] := by
 have hidx : idxW sPut ≠ -1 := by decide
 have x0 : ([sPut,a,b])[((0 : Int)).toNat]? = some sPut := rfl
 have x1 : ([sPut,a,b])[((1 : Int)).toNat]? = some a := rfl
 have x2 : ([sPut,a,b])[((2 : Int)).toNat]? = some b := rfl
 have hw : sPut = [112,117,116] := rfl
 rw [yb hs]
 refine FnE.of_wp _ [(0,0)] Tryz.func18 rfl (by kernel_rfl) Tryz.ntmps18 rfl rfl rfl rfl rfl rfl rfl rfl rfl ?_
 intro F vs hD hvs
 obtain ⟨v0,v1,rfl⟩ := len2 hvs
 show WP _ _ _ _ _ ⟨[(0,.is v0 (.off 0 0)),(1,.im (IV.str l))],tabH 62 p d,1⟩
 (refine zR ?_;refine sI ?_;refine zN ?_)
 (refine zR ?_;refine sI ?_;refine zN ?_)
 (refine zR ?_;refine sI ?_;refine ALK.n (o3 (uk l hl) (Evs.cons Ev.a Evs.nil)) rfl ?_;refine sI ?_;refine zN ?_)
 rw [hs]
 (refine zR ?_;(iterate 2 refine sA ?_);refine ALK.n (oC (c := true) (eB rfl) (eB rfl) rfl) rfl ?_;refine sA ?_;refine ALK.ny (o4 (eB rfl)) rfl rfl rfl rfl ?_;refine ALK.ny (o7 rfl (eB rfl) (eB rfl) (by omega) (by assumption)) rfl rfl rfl rfl ?_;refine ALK.ny (oQ rfl (eB rfl) rfl) rfl rfl rfl rfl ?_;refine ALK.ny (oa (c := true) (eB rfl) (eB rfl) (by simp [cmpS,hw])) rfl rfl rfl rfl ?_;refine ALK.ny (o4 (eB rfl)) rfl rfl rfl rfl ?_;refine ALK.no rfl rfl rfl rfl ?_;refine ALK.no rfl rfl rfl rfl ?_;refine ALK.no rfl rfl rfl rfl ?_;refine ALK.no rfl rfl rfl rfl ?_;refine ALK.ny (uv (eB rfl) (eB rfl)) rfl rfl rfl rfl ?_;refine ALK.ny (o4 (eB rfl)) rfl rfl rfl rfl ?_;refine ALK.no rfl rfl rfl rfl ?_;refine ALK.no rfl rfl rfl rfl ?_;refine ALK.no rfl rfl rfl rfl ?_;refine ALK.no rfl rfl rfl rfl ?_;refine ALK.ny (uv (eB rfl) (eB rfl)) rfl rfl rfl rfl ?_;refine ALK.n (uv (eB rfl) (eB rfl)) rfl ?_;refine zN ?_)
 refine zC (fun h => ?_) (fun h => ?_)
 ·(refine zR ?_;(iterate 3 refine sI ?_);refine ALK.n (o3 (uy a) (Evs.cons Ev.a Evs.nil)) rfl ?_;(iterate 5 refine sI ?_);refine zN ?_)
  (refine zR ?_;(iterate 3 refine sI ?_);refine ALK.n (o3 (uy b) (Evs.cons Ev.a Evs.nil)) rfl ?_;(iterate 5 refine sI ?_);refine zN ?_)
  (refine zR ?_;(iterate 3 refine sI ?_);refine gM rfl rfl rfl rfl ?_;refine ALK.g (fun hb => uE (eC rfl hb)) rfl rfl rfl ?_;refine sA ?_;refine sI ?_;refine gM rfl rfl rfl rfl ?_;(first | refine ALK.g (fun hb => oC (eC rfl hb) (eB rfl) rfl) rfl rfl rfl ?_ | refine ALK.g (fun hb => oB rfl (eC rfl hb) (eB rfl) rfl) rfl rfl rfl ?_);refine sA ?_;refine sI ?_;refine gM rfl rfl rfl rfl ?_;(first | refine ALK.g (fun hb => oC (eC rfl hb) (eB rfl) rfl) rfl rfl rfl ?_ | refine ALK.g (fun hb => oB rfl (eC rfl hb) (eB rfl) rfl) rfl rfl rfl ?_);refine ALK.g (fun hb => o4 (eC rfl hb)) rfl rfl rfl ?_;refine ALK.g2 (fun hb => o4 (eB rfl)) rfl rfl rfl ?_;(first | refine ALK.g2 (fun hb => o7 rfl (eC rfl hb) (eB rfl) (by omega) (by assumption)) rfl rfl rfl ?_ | refine ALK.g2 (fun hb => oj rfl (eC rfl hb) (eB rfl) (by omega) (by omega)) rfl rfl rfl ?_ | refine ALK.g2 (fun hb => ye rfl (eC rfl hb) (eB rfl) (by omega) (by omega)) rfl rfl rfl ?_ | refine ALK.g2 (fun hb => opn_indexArr rfl (eC rfl hb) (eB rfl) (by omega) (by omega)) rfl rfl rfl ?_ | refine ALK.g2 (fun hb => oS rfl (eC rfl hb) (eB rfl) (by omega) (by omega)) rfl rfl rfl ?_);(first | refine ALK.g2 (fun hb => oQ rfl (eC rfl hb) rfl) rfl rfl rfl ?_ | refine ALK.rg2 (fun hb => oK rfl (eC rfl hb) rfl rfl) rfl rfl rfl ?_ | refine ALK.rg2 (fun hb => oR rfl rfl (eC rfl hb) rfl (by assumption) rfl) rfl rfl rfl ?_ | refine ALK.rg2 (fun hb => opr_loadK0 rfl (eC rfl hb) rfl (by assumption) rfl) rfl rfl rfl ?_ | refine ALK.rg2 (fun hb => opr_loadK rfl (eC rfl hb) rfl (by assumption) rfl) rfl rfl rfl ?_);refine ALK.g2 (fun hb => oa (eC rfl hb) (eB rfl) rfl) rfl rfl rfl ?_;refine ALK.g (fun hb => oU (eC rfl hb) rfl (fun hb2 => by first | exact hb2 | (rw [hb,hb2];rfl) | simp_all [gd]) rfl) rfl rfl rfl ?_;refine sA ?_;refine zN ?_)
  clear h
  refine zC (fun h => ?_) (fun h => ?_)
  ·have hr : wordsS p d sPut a b = (errT 1,d) := by
    by_cases ha : numRb a = true
    ·by_cases hb : numRb b = true
     ·have e1 : numS a = some (numRn a) := if_pos ha
      have e2 : numS b = some (numRn b) := if_pos hb
      rw [yk hidx e1 e2]
      unfold actS
      rw [if_pos]
      simpa [ha,hb,sPut] using h
     ·exact uH hidx (.inr (if_neg hb))
    ·exact uH hidx (.inl (if_neg ha))
   rw [hr]
   (refine zR ?_;refine sI ?_;refine ALK.n (oW (eB rfl) (oT 1 (I64.small (by omega) (by omega))) (Evs.cons Ev.a Evs.nil)) rfl ?_;refine sI ?_;refine zN ?_)
   exact zT Tryz.results18
  refine zS ?_
  have ha : numRb a = true := by
   cases e : numRb a with
   | true => rfl
   | false => rw [e] at h;simp at h
  have hb : numRb b = true := by
   cases e : numRb b with
   | true => rfl
   | false => rw [ha,e] at h;simp at h
  have h0 : 0 ≤ numRn a := by
   rw [ha,hb] at h
   simp at h
   omega
  have hr0 : wordsS p d sPut a b = actS p d 0 (numRn a) (numRn b) := yk hidx (if_pos ha) (if_pos hb)
  have hbI := numRn_I b
  obtain ⟨x,hx⟩ : ∃ x,x = numRn a := ⟨_,rfl⟩
  obtain ⟨y,hy⟩ : ∃ y,y = numRn b := ⟨_,rfl⟩
  rw [← hx] at h0 hr0
  rw [← hy] at hr0 hbI
  rw [hr0,← hx,← hy]
  clear h hr0 ha hb
  (refine zR ?_;(iterate 3 refine sI ?_);refine ALK.n (oa (c := true) (eB rfl) (eB rfl) (by simp [cmpS,hw])) rfl ?_;refine zN ?_)
  refine zC (fun h => ?_) (fun h => ?_)
  ·clear h
   (refine zR ?_;refine sI ?_;refine ALK.n (o3 (ji _) (Evs.cons Ev.a Evs.nil)) rfl ?_;refine sI ?_;refine zN ?_)
   refine zC (fun h => ?_) (fun h => ?_)
   ·have h8 : ¬ x < 8 := by
     have : isKeyB x = false := by simpa using h
     unfold isKeyB at this
     simp at this;omega
    have hr : actS p d 0 x y = (errT 3,d) := by
     unfold actS
     rw [if_neg (by omega),if_pos rfl,if_neg h8]
    rw [hr]
    (refine zR ?_;refine sI ?_;refine ALK.n (oW (eB rfl) (oT 3 (I64.small (by omega) (by omega))) (Evs.cons Ev.a Evs.nil)) rfl ?_;refine sI ?_;refine zN ?_)
    exact zT Tryz.results18
   refine zS ?_
   have h8 : x < 8 := by
    have : isKeyB x = true := by simpa using h
    unfold isKeyB at this
    simp at this;omega
   have hr : actS p d 0 x y = (sOk,putD p d x.toNat y) := by
    unfold actS
    rw [if_neg (by omega),if_pos rfl,if_pos h8]
   rw [hr]
   have hlen : d.s.store.length = 8 := g.v.store
   have hne : d.s.store ≠ [] := fun e => by rw [e] at hlen;cases hlen
   have hbeg : beginE p (d.s.store.set x.toNat y) = 0 := by
    unfold beginE
    rw [if_pos g.v.plan,if_pos (by rw [List.length_set];exact hlen)]
   clear h
   (refine zR ?_;refine sI ?_;refine ALK.n (od rfl rfl rfl rfl rfl rfl Parts.nil) rfl ?_;(iterate 2 refine sI ?_);refine fI 3 ?_;refine fI 0 ?_;refine sI ?_;refine ALK.a (uC (b := 8) (enc := cI) d.s.store rfl rfl rfl rfl rfl (fun _ => rfl) (eB rfl) (eB rfl) rfl hne (by omega) rfl) rfl ?_;refine sI ?_;refine fI 2 ?_;refine sI ?_;refine zN ?_)
   (refine zR ?_;(iterate 2 refine sI ?_);refine fI 2 ?_;(iterate 4 refine sI ?_);refine ALK.e (y4 (z := y) rfl rfl (eB rfl) (eB rfl) (yG rfl) rfl rfl (by omega)) rfl rfl ?_;refine zN ?_)
   refine WP.shift (Shift.frzIn 0 2 rfl rfl rfl rfl) ?_
   (refine zW ?_;(iterate 3 refine sI ?_);refine fI 0 ?_;(iterate 3 refine sI ?_);refine fI 2 ?_;refine sI ?_;refine ALK.n (o3 (BeginOf_fn p _ hbeg) (Evs.cons Ev.a (Evs.cons Ev.a Evs.nil))) rfl ?_;refine sI ?_;refine fI 3 ?_;refine sI ?_;refine zD ?_)
   (refine zR ?_;refine sI ?_;refine zN ?_)
   exact zT Tryz.results18
  ·cases h
 ·cases h
theorem given_read (p : Plan) (d : Dk) (l a b : List UInt8) (g : Good p d) (hB : TxsB p.txns) (hl : l.length ≤ 100000) (hs : splitS l = [sRead,a,b]) :
 FnE CC 18 1 [.off 0 0,.im (IV.str l)] (tabH 62 p d) (.im (IV.str (lineS p d l).1)) (tabH 62 p (lineS p d l).2) 1 [0] := by
 have hidx : idxW sRead ≠ -1 := by decide
 have x0 : ([sRead,a,b])[((0 : Int)).toNat]? = some sRead := rfl
 have x1 : ([sRead,a,b])[((1 : Int)).toNat]? = some a := rfl
 have x2 : ([sRead,a,b])[((2 : Int)).toNat]? = some b := rfl
 have hw : sRead = [114,101,97,100] := rfl
 rw [yb hs]
 refine FnE.of_wp _ [(0,0)] Tryz.func18 rfl (by kernel_rfl) Tryz.ntmps18 rfl rfl rfl rfl rfl rfl rfl rfl rfl ?_
 intro F vs hD hvs
 obtain ⟨v0,v1,rfl⟩ := len2 hvs
 show WP _ _ _ _ _ ⟨[(0,.is v0 (.off 0 0)),(1,.im (IV.str l))],tabH 62 p d,1⟩
 (refine zR ?_;refine sI ?_;refine zN ?_)
 (refine zR ?_;refine sI ?_;refine zN ?_)
 (refine zR ?_;refine sI ?_;refine ALK.n (o3 (uk l hl) (Evs.cons Ev.a Evs.nil)) rfl ?_;refine sI ?_;refine zN ?_)
 rw [hs]
 (refine zR ?_;(iterate 2 refine sA ?_);refine ALK.n (oC (c := true) (eB rfl) (eB rfl) rfl) rfl ?_;refine sA ?_;refine ALK.ny (o4 (eB rfl)) rfl rfl rfl rfl ?_;refine ALK.ny (o7 rfl (eB rfl) (eB rfl) (by omega) (by assumption)) rfl rfl rfl rfl ?_;refine ALK.ny (oQ rfl (eB rfl) rfl) rfl rfl rfl rfl ?_;refine ALK.ny (oa (c := false) (eB rfl) (eB rfl) (by simp [cmpS,hw])) rfl rfl rfl rfl ?_;refine ALK.ny (o4 (eB rfl)) rfl rfl rfl rfl ?_;refine ALK.ny (o4 (eB rfl)) rfl rfl rfl rfl ?_;refine ALK.ny (o7 rfl (eB rfl) (eB rfl) (by omega) (by assumption)) rfl rfl rfl rfl ?_;refine ALK.ny (oQ rfl (eB rfl) rfl) rfl rfl rfl rfl ?_;refine ALK.ny (oa (c := true) (eB rfl) (eB rfl) (by simp [cmpS,hw])) rfl rfl rfl rfl ?_;refine ALK.ny (yU (eB rfl) (eB rfl)) rfl rfl rfl rfl ?_;refine ALK.ny (o4 (eB rfl)) rfl rfl rfl rfl ?_;refine ALK.no rfl rfl rfl rfl ?_;refine ALK.no rfl rfl rfl rfl ?_;refine ALK.no rfl rfl rfl rfl ?_;refine ALK.no rfl rfl rfl rfl ?_;refine ALK.ny (uv (eB rfl) (eB rfl)) rfl rfl rfl rfl ?_;refine ALK.n (uv (eB rfl) (eB rfl)) rfl ?_;refine zN ?_)
 refine zC (fun h => ?_) (fun h => ?_)
 ·(refine zR ?_;(iterate 3 refine sI ?_);refine ALK.n (o3 (uy a) (Evs.cons Ev.a Evs.nil)) rfl ?_;(iterate 5 refine sI ?_);refine zN ?_)
  (refine zR ?_;(iterate 3 refine sI ?_);refine ALK.n (o3 (uy b) (Evs.cons Ev.a Evs.nil)) rfl ?_;(iterate 5 refine sI ?_);refine zN ?_)
  (refine zR ?_;(iterate 3 refine sI ?_);refine gM rfl rfl rfl rfl ?_;refine ALK.g (fun hb => uE (eC rfl hb)) rfl rfl rfl ?_;refine sA ?_;refine sI ?_;refine gM rfl rfl rfl rfl ?_;(first | refine ALK.g (fun hb => oC (eC rfl hb) (eB rfl) rfl) rfl rfl rfl ?_ | refine ALK.g (fun hb => oB rfl (eC rfl hb) (eB rfl) rfl) rfl rfl rfl ?_);refine sA ?_;refine sI ?_;refine gM rfl rfl rfl rfl ?_;(first | refine ALK.g (fun hb => oC (eC rfl hb) (eB rfl) rfl) rfl rfl rfl ?_ | refine ALK.g (fun hb => oB rfl (eC rfl hb) (eB rfl) rfl) rfl rfl rfl ?_);refine ALK.g (fun hb => o4 (eC rfl hb)) rfl rfl rfl ?_;refine ALK.g2 (fun hb => o4 (eB rfl)) rfl rfl rfl ?_;(first | refine ALK.g2 (fun hb => o7 rfl (eC rfl hb) (eB rfl) (by omega) (by assumption)) rfl rfl rfl ?_ | refine ALK.g2 (fun hb => oj rfl (eC rfl hb) (eB rfl) (by omega) (by omega)) rfl rfl rfl ?_ | refine ALK.g2 (fun hb => ye rfl (eC rfl hb) (eB rfl) (by omega) (by omega)) rfl rfl rfl ?_ | refine ALK.g2 (fun hb => opn_indexArr rfl (eC rfl hb) (eB rfl) (by omega) (by omega)) rfl rfl rfl ?_ | refine ALK.g2 (fun hb => oS rfl (eC rfl hb) (eB rfl) (by omega) (by omega)) rfl rfl rfl ?_);(first | refine ALK.g2 (fun hb => oQ rfl (eC rfl hb) rfl) rfl rfl rfl ?_ | refine ALK.rg2 (fun hb => oK rfl (eC rfl hb) rfl rfl) rfl rfl rfl ?_ | refine ALK.rg2 (fun hb => oR rfl rfl (eC rfl hb) rfl (by assumption) rfl) rfl rfl rfl ?_ | refine ALK.rg2 (fun hb => opr_loadK0 rfl (eC rfl hb) rfl (by assumption) rfl) rfl rfl rfl ?_ | refine ALK.rg2 (fun hb => opr_loadK rfl (eC rfl hb) rfl (by assumption) rfl) rfl rfl rfl ?_);refine ALK.g2 (fun hb => oa (c := true) (eC rfl hb) (eB rfl) (by simp [cmpS,hw])) rfl rfl rfl ?_;refine ALK.g (fun hb => oU (eC rfl hb) rfl (fun hb2 => by first | exact hb2 | (rw [hb,hb2];rfl) | simp_all [gd]) rfl) rfl rfl rfl ?_;refine sA ?_;refine zN ?_)
  clear h
  refine zC (fun h => ?_) (fun h => ?_)
  ·have hr : wordsS p d sRead a b = (errT 1,d) := by
    by_cases ha : numRb a = true
    ·by_cases hb : numRb b = true
     ·have e1 : numS a = some (numRn a) := if_pos ha
      have e2 : numS b = some (numRn b) := if_pos hb
      rw [yk hidx e1 e2]
      have h3 : numRn a < 0 ∨ numRn b < 0 := by simpa [ha,hb] using h
      show actS p d 1 _ _ = _
      unfold actS
      by_cases h4 : numRn a < 0
      ·rw [if_pos h4]
      ·rw [if_neg h4,if_neg (by decide),if_pos (by omega)]
     ·exact uH hidx (.inr (if_neg hb))
    ·exact uH hidx (.inl (if_neg ha))
   rw [hr]
   (refine zR ?_;refine sI ?_;refine ALK.n (oW (eB rfl) (oT 1 (I64.small (by omega) (by omega))) (Evs.cons Ev.a Evs.nil)) rfl ?_;refine sI ?_;refine zN ?_)
   exact zT Tryz.results18
  refine zS ?_
  have ha : numRb a = true := by
   cases e : numRb a with
   | true => rfl
   | false => rw [e] at h;simp at h
  have hb : numRb b = true := by
   cases e : numRb b with
   | true => rfl
   | false => rw [ha,e] at h;simp at h
  have h0 : 0 ≤ numRn a ∧ 0 ≤ numRn b := by
   rw [ha,hb] at h
   simp at h
   omega
  have hr0 : wordsS p d sRead a b = actS p d 1 (numRn a) (numRn b) := yk hidx (if_pos ha) (if_pos hb)
  obtain ⟨x,hx⟩ : ∃ x,x = numRn a := ⟨_,rfl⟩
  obtain ⟨y,hy⟩ : ∃ y,y = numRn b := ⟨_,rfl⟩
  rw [← hx,← hy] at h0 hr0
  rw [hr0,← hx,← hy]
  clear h hr0 ha hb
  (refine zR ?_;(iterate 3 refine sI ?_);refine ALK.n (oa (c := false) (eB rfl) (eB rfl) (by simp [cmpS,hw])) rfl ?_;refine zN ?_)
  refine zC (fun h => ?_) (fun h => ?_)
  ·cases h
  refine zS ?_
  clear h
  (refine zR ?_;(iterate 2 refine sI ?_);refine sA ?_;(iterate 2 refine sI ?_);refine zN ?_)
  (refine zR ?_;(iterate 3 refine sI ?_);refine ALK.n (oa (c := false) (eB rfl) (eB rfl) (by simp [cmpS,hw])) rfl ?_;refine zN ?_)
  refine zC (fun h => ?_) (fun h => ?_)
  ·cases h
  refine zS ?_
  refine WP.shift (Shift.frzBlk 11 rfl rfl rfl) ?_
  (refine zW ?_;(iterate 2 refine sI ?_);refine fI 0 ?_;(iterate 3 refine sI ?_);refine fI 3 ?_;(iterate 2 refine sI ?_);refine ALK.n (o3 (DoOf_fn p d.s ⟨1,x,y⟩ hB) (Evs.cons Ev.a (Evs.cons Ev.a (Evs.cons Ev.a Evs.nil)))) rfl ?_;(iterate 6 refine sI ?_);refine zD ?_)
  clear h
  (refine zR ?_;(iterate 2 refine sI ?_);refine zN ?_)
  have hk := errno_do g.v ⟨1,x,y⟩
  refine zC (fun h => ?_) (fun h => ?_)
  ·have h1 : ¬ doE p d.s ⟨1,x,y⟩ = 0 := by simpa using h
   have hr : actS p d 1 x y = (errT (doE p d.s ⟨1,x,y⟩),d) := by
    unfold actS
    rw [if_neg (by omega),if_neg (by decide),if_neg (by omega),if_neg h1]
   rw [hr]
   (refine zR ?_;(iterate 2 refine sI ?_);refine ALK.n (oW (eB rfl) (oT (doE p d.s ⟨1,x,y⟩) (I64.small (by omega) (by omega))) (Evs.cons Ev.a Evs.nil)) rfl ?_;refine sI ?_;refine zN ?_)
   exact zT Tryz.results18
  refine zS ?_
  have h1 : doE p d.s ⟨1,x,y⟩ = 0 := by simpa using h
  have hr : actS p d 1 x y = (sOk,doD p d ⟨1,x,y⟩) := by
   unfold actS
   rw [if_neg (by omega),if_neg (by decide),if_neg (by omega),if_pos h1]
  rw [hr]
  (refine zR ?_;(iterate 3 refine sI ?_);refine fI 3 ?_;refine sI ?_;refine zN ?_)
  (refine zR ?_;refine sI ?_;refine zN ?_)
  exact zT Tryz.results18
 ·cases h
theorem given_write (p : Plan) (d : Dk) (l a b : List UInt8) (g : Good p d) (hB : TxsB p.txns) (hl : l.length ≤ 100000) (hs : splitS l = [sWrite,a,b]) :
 FnE CC 18 1 [.off 0 0,.im (IV.str l)] (tabH 62 p d) (.im (IV.str (lineS p d l).1)) (tabH 62 p (lineS p d l).2) 1 [0] := by
 have hidx : idxW sWrite ≠ -1 := by decide
 have x0 : ([sWrite,a,b])[((0 : Int)).toNat]? = some sWrite := rfl
 have x1 : ([sWrite,a,b])[((1 : Int)).toNat]? = some a := rfl
 have x2 : ([sWrite,a,b])[((2 : Int)).toNat]? = some b := rfl
 have hw : sWrite = [119,114,105,116,101] := rfl
 rw [yb hs]
 refine FnE.of_wp _ [(0,0)] Tryz.func18 rfl (by kernel_rfl) Tryz.ntmps18 rfl rfl rfl rfl rfl rfl rfl rfl rfl ?_
 intro F vs hD hvs
 obtain ⟨v0,v1,rfl⟩ := len2 hvs
 show WP _ _ _ _ _ ⟨[(0,.is v0 (.off 0 0)),(1,.im (IV.str l))],tabH 62 p d,1⟩
 (refine zR ?_;refine sI ?_;refine zN ?_)
 (refine zR ?_;refine sI ?_;refine zN ?_)
 (refine zR ?_;refine sI ?_;refine ALK.n (o3 (uk l hl) (Evs.cons Ev.a Evs.nil)) rfl ?_;refine sI ?_;refine zN ?_)
 rw [hs]
 (refine zR ?_;(iterate 2 refine sA ?_);refine ALK.n (oC (c := true) (eB rfl) (eB rfl) rfl) rfl ?_;refine sA ?_;refine ALK.ny (o4 (eB rfl)) rfl rfl rfl rfl ?_;refine ALK.ny (o7 rfl (eB rfl) (eB rfl) (by omega) (by assumption)) rfl rfl rfl rfl ?_;refine ALK.ny (oQ rfl (eB rfl) rfl) rfl rfl rfl rfl ?_;refine ALK.ny (oa (c := false) (eB rfl) (eB rfl) (by simp [cmpS,hw])) rfl rfl rfl rfl ?_;refine ALK.ny (o4 (eB rfl)) rfl rfl rfl rfl ?_;refine ALK.ny (o4 (eB rfl)) rfl rfl rfl rfl ?_;refine ALK.ny (o7 rfl (eB rfl) (eB rfl) (by omega) (by assumption)) rfl rfl rfl rfl ?_;refine ALK.ny (oQ rfl (eB rfl) rfl) rfl rfl rfl rfl ?_;refine ALK.ny (oa (c := false) (eB rfl) (eB rfl) (by simp [cmpS,hw])) rfl rfl rfl rfl ?_;refine ALK.ny (yU (eB rfl) (eB rfl)) rfl rfl rfl rfl ?_;refine ALK.ny (o4 (eB rfl)) rfl rfl rfl rfl ?_;refine ALK.ny (o4 (eB rfl)) rfl rfl rfl rfl ?_;refine ALK.ny (o7 rfl (eB rfl) (eB rfl) (by omega) (by assumption)) rfl rfl rfl rfl ?_;refine ALK.ny (oQ rfl (eB rfl) rfl) rfl rfl rfl rfl ?_;refine ALK.ny (oa (c := true) (eB rfl) (eB rfl) (by simp [cmpS,hw])) rfl rfl rfl rfl ?_;refine ALK.ny (yU (eB rfl) (eB rfl)) rfl rfl rfl rfl ?_;refine ALK.n (uv (eB rfl) (eB rfl)) rfl ?_;refine zN ?_)
 refine zC (fun h => ?_) (fun h => ?_)
 ·(refine zR ?_;(iterate 3 refine sI ?_);refine ALK.n (o3 (uy a) (Evs.cons Ev.a Evs.nil)) rfl ?_;(iterate 5 refine sI ?_);refine zN ?_)
  (refine zR ?_;(iterate 3 refine sI ?_);refine ALK.n (o3 (uy b) (Evs.cons Ev.a Evs.nil)) rfl ?_;(iterate 5 refine sI ?_);refine zN ?_)
  (refine zR ?_;(iterate 3 refine sI ?_);refine gM rfl rfl rfl rfl ?_;refine ALK.g (fun hb => uE (eC rfl hb)) rfl rfl rfl ?_;refine sA ?_;refine sI ?_;refine gM rfl rfl rfl rfl ?_;(first | refine ALK.g (fun hb => oC (eC rfl hb) (eB rfl) rfl) rfl rfl rfl ?_ | refine ALK.g (fun hb => oB rfl (eC rfl hb) (eB rfl) rfl) rfl rfl rfl ?_);refine sA ?_;refine sI ?_;refine gM rfl rfl rfl rfl ?_;(first | refine ALK.g (fun hb => oC (eC rfl hb) (eB rfl) rfl) rfl rfl rfl ?_ | refine ALK.g (fun hb => oB rfl (eC rfl hb) (eB rfl) rfl) rfl rfl rfl ?_);refine ALK.g (fun hb => o4 (eC rfl hb)) rfl rfl rfl ?_;refine ALK.g2 (fun hb => o4 (eB rfl)) rfl rfl rfl ?_;(first | refine ALK.g2 (fun hb => o7 rfl (eC rfl hb) (eB rfl) (by omega) (by assumption)) rfl rfl rfl ?_ | refine ALK.g2 (fun hb => oj rfl (eC rfl hb) (eB rfl) (by omega) (by omega)) rfl rfl rfl ?_ | refine ALK.g2 (fun hb => ye rfl (eC rfl hb) (eB rfl) (by omega) (by omega)) rfl rfl rfl ?_ | refine ALK.g2 (fun hb => opn_indexArr rfl (eC rfl hb) (eB rfl) (by omega) (by omega)) rfl rfl rfl ?_ | refine ALK.g2 (fun hb => oS rfl (eC rfl hb) (eB rfl) (by omega) (by omega)) rfl rfl rfl ?_);(first | refine ALK.g2 (fun hb => oQ rfl (eC rfl hb) rfl) rfl rfl rfl ?_ | refine ALK.rg2 (fun hb => oK rfl (eC rfl hb) rfl rfl) rfl rfl rfl ?_ | refine ALK.rg2 (fun hb => oR rfl rfl (eC rfl hb) rfl (by assumption) rfl) rfl rfl rfl ?_ | refine ALK.rg2 (fun hb => opr_loadK0 rfl (eC rfl hb) rfl (by assumption) rfl) rfl rfl rfl ?_ | refine ALK.rg2 (fun hb => opr_loadK rfl (eC rfl hb) rfl (by assumption) rfl) rfl rfl rfl ?_);refine ALK.g2 (fun hb => oa (c := true) (eC rfl hb) (eB rfl) (by simp [cmpS,hw])) rfl rfl rfl ?_;refine ALK.g (fun hb => oU (eC rfl hb) rfl (fun hb2 => by first | exact hb2 | (rw [hb,hb2];rfl) | simp_all [gd]) rfl) rfl rfl rfl ?_;refine sA ?_;refine zN ?_)
  clear h
  refine zC (fun h => ?_) (fun h => ?_)
  ·have hr : wordsS p d sWrite a b = (errT 1,d) := by
    by_cases ha : numRb a = true
    ·by_cases hb : numRb b = true
     ·have e1 : numS a = some (numRn a) := if_pos ha
      have e2 : numS b = some (numRn b) := if_pos hb
      rw [yk hidx e1 e2]
      have h3 : numRn a < 0 ∨ numRn b < 0 := by simpa [ha,hb] using h
      show actS p d 2 _ _ = _
      unfold actS
      by_cases h4 : numRn a < 0
      ·rw [if_pos h4]
      ·rw [if_neg h4,if_neg (by decide),if_pos (by omega)]
     ·exact uH hidx (.inr (if_neg hb))
    ·exact uH hidx (.inl (if_neg ha))
   rw [hr]
   (refine zR ?_;refine sI ?_;refine ALK.n (oW (eB rfl) (oT 1 (I64.small (by omega) (by omega))) (Evs.cons Ev.a Evs.nil)) rfl ?_;refine sI ?_;refine zN ?_)
   exact zT Tryz.results18
  refine zS ?_
  have ha : numRb a = true := by
   cases e : numRb a with
   | true => rfl
   | false => rw [e] at h;simp at h
  have hb : numRb b = true := by
   cases e : numRb b with
   | true => rfl
   | false => rw [ha,e] at h;simp at h
  have h0 : 0 ≤ numRn a ∧ 0 ≤ numRn b := by
   rw [ha,hb] at h
   simp at h
   omega
  have hr0 : wordsS p d sWrite a b = actS p d 2 (numRn a) (numRn b) := yk hidx (if_pos ha) (if_pos hb)
  obtain ⟨x,hx⟩ : ∃ x,x = numRn a := ⟨_,rfl⟩
  obtain ⟨y,hy⟩ : ∃ y,y = numRn b := ⟨_,rfl⟩
  rw [← hx,← hy] at h0 hr0
  rw [hr0,← hx,← hy]
  clear h hr0 ha hb
  (refine zR ?_;(iterate 3 refine sI ?_);refine ALK.n (oa (c := false) (eB rfl) (eB rfl) (by simp [cmpS,hw])) rfl ?_;refine zN ?_)
  refine zC (fun h => ?_) (fun h => ?_)
  ·cases h
  refine zS ?_
  clear h
  (refine zR ?_;(iterate 2 refine sI ?_);refine sA ?_;(iterate 2 refine sI ?_);refine zN ?_)
  (refine zR ?_;(iterate 3 refine sI ?_);refine ALK.n (oa (c := true) (eB rfl) (eB rfl) (by simp [cmpS,hw])) rfl ?_;refine zN ?_)
  refine zC (fun h => ?_) (fun h => ?_)
  rotate_left
  ·cases h
  (refine zR ?_;refine fI 0 ?_;refine sI ?_;refine zN ?_)
  refine WP.shift (Shift.frzBlk 11 rfl rfl rfl) ?_
  (refine zW ?_;(iterate 2 refine sI ?_);refine fI 0 ?_;(iterate 3 refine sI ?_);refine fI 3 ?_;(iterate 2 refine sI ?_);refine ALK.n (o3 (DoOf_fn p d.s ⟨2,x,y⟩ hB) (Evs.cons Ev.a (Evs.cons Ev.a (Evs.cons Ev.a Evs.nil)))) rfl ?_;(iterate 6 refine sI ?_);refine zD ?_)
  clear h
  (refine zR ?_;(iterate 2 refine sI ?_);refine zN ?_)
  have hk := errno_do g.v ⟨2,x,y⟩
  refine zC (fun h => ?_) (fun h => ?_)
  ·have h1 : ¬ doE p d.s ⟨2,x,y⟩ = 0 := by simpa using h
   have hr : actS p d 2 x y = (errT (doE p d.s ⟨2,x,y⟩),d) := by
    unfold actS
    rw [if_neg (by omega),if_neg (by decide),if_neg (by omega),if_neg h1]
   rw [hr]
   (refine zR ?_;(iterate 2 refine sI ?_);refine ALK.n (oW (eB rfl) (oT (doE p d.s ⟨2,x,y⟩) (I64.small (by omega) (by omega))) (Evs.cons Ev.a Evs.nil)) rfl ?_;refine sI ?_;refine zN ?_)
   exact zT Tryz.results18
  refine zS ?_
  have h1 : doE p d.s ⟨2,x,y⟩ = 0 := by simpa using h
  have hr : actS p d 2 x y = (sOk,doD p d ⟨2,x,y⟩) := by
   unfold actS
   rw [if_neg (by omega),if_neg (by decide),if_neg (by omega),if_pos h1]
  rw [hr]
  (refine zR ?_;(iterate 3 refine sI ?_);refine fI 3 ?_;refine sI ?_;refine zN ?_)
  (refine zR ?_;refine sI ?_;refine zN ?_)
  exact zT Tryz.results18
 ·cases h
theorem store_one {st : List Int} {y : Int} (h : st[0]? = some y) : storeT (st.take 1) = digs y := by
 cases st with
 | nil => cases h
 | cons a r =>
  simp only [List.getElem?_cons_zero,Option.some.injEq] at h
  subst h
  rfl
theorem store_next {st : List Int} {k : Nat} {y : Int} (hk : 1 ≤ k) (h : st[k]? = some y) : storeT (st.take (k + 1)) = storeT (st.take k) ++ [32] ++ digs y := by
 unfold storeT
 rw [oM h,List.map_append]
 show joinS _ (_ ++ [digs y]) = _
 rw [joinS_snoc,if_neg]
 intro e
 have h1 := congrArg List.length e
 have h2 := (List.getElem?_eq_some_iff.1 h).1
 rw [List.length_map,List.length_take,List.length_nil] at h1
 omega
theorem given_none (p : Plan) (d : Dk) (l w a b : List UInt8) (g : Good p d) (hB : TxsB p.txns) (hpI : PlanI p) (hl : l.length ≤ 100000) (hs : splitS l = [w,a,b]) (hi : idxW w = -1) :
 FnE CC 18 1 [.off 0 0,.im (IV.str l)] (tabH 62 p d) (.im (IV.str (lineS p d l).1)) (tabH 62 p (lineS p d l).2) 1 [0] := by
 have x0 : ([w,a,b])[((0 : Int)).toNat]? = some w := rfl
 have hw : w ≠ [112,117,116] ∧ w ≠ [114,101,97,100] ∧ w ≠ [119,114,105,116,101] := ⟨fun e => by subst e;revert hi;decide,fun e => by subst e;revert hi;decide,fun e => by subst e;revert hi;decide⟩
 have hE : splitD p d (splitS l) = (errT 1,d) := by
  rw [hs]
  show wordsS p d w a b = _
  unfold wordsS
  rw [if_pos hi]
 refine FnE.of_wp _ [(0,0)] Tryz.func18 rfl (by kernel_rfl) Tryz.ntmps18 rfl rfl rfl rfl rfl rfl rfl rfl rfl ?_
 intro F vs hD hvs
 obtain ⟨v0,v1,rfl⟩ := len2 hvs
 show WP _ _ _ _ _ ⟨[(0,.is v0 (.off 0 0)),(1,.im (IV.str l))],tabH 62 p d,1⟩
 (refine zR ?_;refine sI ?_;refine zN ?_)
 (refine zR ?_;refine sI ?_;refine zN ?_)
 (refine zR ?_;refine sI ?_;refine ALK.n (o3 (uk l hl) (Evs.cons Ev.a Evs.nil)) rfl ?_;refine sI ?_;refine zN ?_)
 rw [hs]
 (refine zR ?_;(iterate 2 refine sA ?_);refine ALK.n (oC (c := true) (eB rfl) (eB rfl) rfl) rfl ?_;refine sA ?_;refine ALK.ny (o4 (eB rfl)) rfl rfl rfl rfl ?_;refine ALK.ny (o7 rfl (eB rfl) (eB rfl) (by omega) (by assumption)) rfl rfl rfl rfl ?_;refine ALK.ny (oQ rfl (eB rfl) rfl) rfl rfl rfl rfl ?_;refine ALK.ny (oa (c := false) (eB rfl) (eB rfl) (by simp [cmpS,hw])) rfl rfl rfl rfl ?_;refine ALK.ny (o4 (eB rfl)) rfl rfl rfl rfl ?_;refine ALK.ny (o4 (eB rfl)) rfl rfl rfl rfl ?_;refine ALK.ny (o7 rfl (eB rfl) (eB rfl) (by omega) (by assumption)) rfl rfl rfl rfl ?_;refine ALK.ny (oQ rfl (eB rfl) rfl) rfl rfl rfl rfl ?_;refine ALK.ny (oa (c := false) (eB rfl) (eB rfl) (by simp [cmpS,hw])) rfl rfl rfl rfl ?_;refine ALK.ny (yU (eB rfl) (eB rfl)) rfl rfl rfl rfl ?_;refine ALK.ny (o4 (eB rfl)) rfl rfl rfl rfl ?_;refine ALK.ny (o4 (eB rfl)) rfl rfl rfl rfl ?_;refine ALK.ny (o7 rfl (eB rfl) (eB rfl) (by omega) (by assumption)) rfl rfl rfl rfl ?_;refine ALK.ny (oQ rfl (eB rfl) rfl) rfl rfl rfl rfl ?_;refine ALK.ny (oa (c := false) (eB rfl) (eB rfl) (by simp [cmpS,hw])) rfl rfl rfl rfl ?_;refine ALK.ny (yU (eB rfl) (eB rfl)) rfl rfl rfl rfl ?_;refine ALK.n (uv (eB rfl) (eB rfl)) rfl ?_;refine zN ?_)
 refine zC (fun h => ?_) (fun h => ?_)
 ·cases h
 refine zS ?_
 clear h
 (refine zR ?_;refine sI ?_;refine zN ?_)
 refine zB ?_
 (refine zR ?_;refine ALK.n (oa (a := l) (b := sCan) (eB rfl) (eB rfl) rfl) rfl ?_;refine sI ?_;refine zN ?_)
 refine zC (fun h => ?_) (fun h => ?_)
 ·have e : l = sCan := by simpa using h
  clear h
  have hr : lineS p d l = (if overB p d.s then sOver else canT (canL p d.s),d) := by unfold lineS;rw [if_pos e]
  rw [hr]
  (refine zW ?_;(iterate 2 refine sI ?_);refine fI 0 ?_;(iterate 3 refine sI ?_);refine fI 3 ?_;refine sI ?_;refine ALK.n (o3 (vd p d.s g.v) (Evs.cons Ev.a (Evs.cons Ev.a Evs.nil))) rfl ?_;refine zD ?_)
  refine zC (fun h => ?_) (fun h => ?_)
  ·rw [if_pos h]
   (refine zR ?_;refine sI ?_;refine zN ?_)
   exact zT Tryz.results18
  refine zS ?_
  rw [if_neg (by rw [h];simp)]
  (refine zW ?_;(iterate 2 refine sI ?_);refine fI 0 ?_;(iterate 3 refine sI ?_);refine fI 3 ?_;refine sI ?_;refine ALK.n (o3 (CanOf_fn p d.s g.v) (Evs.cons Ev.a (Evs.cons Ev.a Evs.nil))) rfl ?_;refine ALK.n (o3 (ref_steps_fn (canL p d.s) (can_len g.v) (fun x hx => jY g.v hx) (fun x hx => by have := can_rng g.v hx;unfold I64;omega)) (Evs.cons Ev.a Evs.nil)) rfl ?_;refine sI ?_;refine zD ?_)
  exact zT Tryz.results18
 have n1 : l ≠ sCan := by simpa using h
 clear h
 (refine zR ?_;refine ALK.n (oa (a := l) (b := sStore) (eB rfl) (eB rfl) rfl) rfl ?_;refine sI ?_;refine zN ?_)
 refine zC (fun h => ?_) (fun h => ?_)
 ·have e : l = sStore := by simpa using h
  clear h
  have hr : lineS p d l = (storeT d.s.store,d) := by unfold lineS;rw [if_neg n1,if_pos e]
  rw [hr]
  have h8 := g.v.store
  have hI := g.i.store
  obtain ⟨st,hst⟩ : ∃ st,st = d.s.store := ⟨_,rfl⟩
  obtain ⟨y0,hy0⟩ := oc (xs := d.s.store) (k := 0) (by omega)
  have hy0' : d.s.store[((0 : Int)).toNat]? = some y0 := hy0
  have i0 := hI y0 (List.mem_of_getElem? hy0)
  (refine zR ?_;(iterate 2 refine sI ?_);refine fI 3 ?_;refine fI 0 ?_;(iterate 3 refine sI ?_);refine ALK.n (o3 (oL y0 i0) (Evs.cons Ev.a Evs.nil)) rfl ?_;refine sI ?_;refine zN ?_)
  (refine zR ?_;refine sI ?_;refine zN ?_)
  refine zB ?_
  refine WP.loop (fun k : Nat => ⟨[(15,.im (IV.int k)),(14,.im (IV.str (storeT (d.s.store.take k)))),(0,.is v0 (.off 0 0))],tabH 62 p d,1⟩) (fun k => 1 ≤ k ∧ k ≤ 8) (fun k => 8 - k) 1 ⟨by omega,by omega⟩ (Shift.sub [(0,0)] rfl (SubE.cons rfl SLe.a (SubE.cons rfl (SLe.im (ILe.eq (by rw [store_one hy0]))) SubE.a)) (SubH.cons rfl rfl (ObLe.blk SLes.a) SubH.nil)) ?_
  rintro k ⟨hk1,hk8⟩
  (refine zR ?_;(iterate 2 refine sI ?_);refine zN ?_)
  refine zC (fun h => ?_) (fun h => ?_)
  ·refine zS ?_
   have hlt : k < 8 := by simp at h;omega
   clear h
   obtain ⟨y,hy⟩ := oc (xs := d.s.store) (k := k) (by omega)
   have hy' : d.s.store[((k : Nat) : Int).toNat]? = some y := by simpa using hy
   have iy := hI y (List.mem_of_getElem? hy)
   have ly := ua iy
   have lt := j1 (l := d.s.store.take k) (by rw [List.length_take];omega) (fun x hx => hI x (List.mem_of_mem_take hx))
   refine zB ?_
   (refine zR ?_;refine sI ?_;refine ALK.n (ol (b := [32]) (eB rfl) (eB rfl) (by simp;omega)) rfl ?_;(iterate 2 refine sI ?_);refine fI 3 ?_;refine fI 0 ?_;(iterate 4 refine sI ?_);refine ALK.n (o3 (oL y iy) (Evs.cons Ev.a Evs.nil)) rfl ?_;refine ALK.n (ol (eB rfl) (eB rfl) (by simp;omega)) rfl ?_;refine sI ?_;refine zN ?_)
   (refine zR ?_;(iterate 3 refine sI ?_);refine zN ?_)
   show ∃ _,_ ∧ _ ∧ _
   exact ⟨k + 1,⟨by omega,by omega⟩,by omega,Shift.sub [(0,0)] rfl (SubE.cons rfl SLe.a (SubE.cons rfl (SLe.im (ILe.eq (by rw [store_next hk1 hy]))) SubE.a)) (SubH.cons rfl rfl (ObLe.blk SLes.a) SubH.nil)⟩
  ·refine zE ?_
   have hke : k = 8 := by simp at h;omega
   subst hke
   have e8 : d.s.store.take 8 = d.s.store := List.take_of_length_le (by omega)
   rw [e8]
   (refine zR ?_;(iterate 2 refine sI ?_);refine zN ?_)
   exact zT Tryz.results18
 have n2 : l ≠ sStore := by simpa using h
 clear h
 (refine zR ?_;refine ALK.n (oa (a := l) (b := sRest) (eB rfl) (eB rfl) rfl) rfl ?_;refine sI ?_;refine zN ?_)
 refine zC (fun h => ?_) (fun h => ?_)
 ·have e : l = sRest := by simpa using h
  clear h
  have hr : lineS p d l = (digs (restN p d),restD p d) := by unfold lineS;rw [if_neg n1,if_neg n2,if_pos e]
  rw [hr]
  obtain ⟨_,_,r1,r2⟩ := g.rest hpI
  (refine zR ?_;refine sI ?_;refine zN ?_)
  (refine zW ?_;(iterate 3 refine sI ?_);refine fI 0 ?_;(iterate 3 refine sI ?_);refine fI 3 ?_;refine sI ?_;refine ALK.n (o3 (Rest_fn p d.s g.v hB) (Evs.cons Ev.a (Evs.cons Ev.a Evs.nil))) rfl ?_;(iterate 4 refine sI ?_);refine fI 3 ?_;(iterate 2 refine sI ?_);refine zD ?_)
  (refine zR ?_;refine sI ?_;refine ALK.n (o3 (oL (restN p d) (I64.small (by omega) (by omega))) (Evs.cons Ev.a Evs.nil)) rfl ?_;refine sI ?_;refine zN ?_)
  exact zT Tryz.results18
 have n3 : l ≠ sRest := by simpa using h
 clear h
 (refine zR ?_;refine ALK.n (oa (a := l) (b := sAudit) (eB rfl) (eB rfl) rfl) rfl ?_;refine sI ?_;refine zN ?_)
 refine zC (fun h => ?_) (fun h => ?_)
 ·have e : l = sAudit := by simpa using h
  clear h
  have hr : lineS p d l = (if resE p d.s = 0 then digs (auditN p d) else errT (resE p d.s),d) := by unfold lineS;rw [if_neg n1,if_neg n2,if_neg n3,if_pos e]
  rw [hr]
  (refine zW ?_;(iterate 2 refine sI ?_);refine fI 0 ?_;(iterate 3 refine sI ?_);refine fI 3 ?_;refine sI ?_;refine ALK.n (o3 (ResultsOf_fn p d.s hB) (Evs.cons Ev.a (Evs.cons Ev.a Evs.nil))) rfl ?_;(iterate 5 refine sI ?_);refine zD ?_)
  (refine zR ?_;(iterate 2 refine sI ?_);refine zN ?_)
  have hk := v6 g.v
  refine zC (fun h => ?_) (fun h => ?_)
  ·have h1 : ¬ resE p d.s = 0 := by simpa using h
   rw [if_neg h1]
   (refine zR ?_;(iterate 2 refine sI ?_);refine ALK.n (oW (eB rfl) (oT (resE p d.s) (I64.small (by omega) (by omega))) (Evs.cons Ev.a Evs.nil)) rfl ?_;refine sI ?_;refine zN ?_)
   exact zT Tryz.results18
  refine zS ?_
  have h1 : resE p d.s = 0 := by simpa using h
  rw [if_pos h1]
  have ha := g.audit
  (refine zW ?_;(iterate 2 refine sI ?_);refine fI 2 ?_;(iterate 3 refine sI ?_);refine fI 0 ?_;refine fI 1 ?_;(iterate 3 refine sI ?_);refine fI 3 ?_;refine fI 0 ?_;(iterate 2 refine sI ?_);refine ALK.n (o3 (AuditOf_fn d.first p.txns d.s.store (resR p d.s) hB) (Evs.cons Ev.a (Evs.cons Ev.a (Evs.cons Ev.a (Evs.cons Ev.a Evs.nil))))) rfl ?_;(iterate 5 refine sI ?_);refine zD ?_)
  (refine zR ?_;refine sI ?_;refine ALK.n (o3 (oL (auditN p d) (I64.small (by omega) (by omega))) (Evs.cons Ev.a Evs.nil)) rfl ?_;refine sI ?_;refine zN ?_)
  exact zT Tryz.results18
 have n4 : l ≠ sAudit := by simpa using h
 clear h
 refine zS ?_
 have hr : lineS p d l = (errT 1,d) := by unfold lineS;rw [if_neg n1,if_neg n2,if_neg n3,if_neg n4];exact hE
 rw [hr]
 (refine zR ?_;refine sI ?_;refine ALK.n (oW (eB rfl) (oT 1 (I64.small (by omega) (by omega))) (Evs.cons Ev.a Evs.nil)) rfl ?_;refine sI ?_;refine zN ?_)
 exact zT Tryz.results18
theorem given_len (p : Plan) (d : Dk) (l : List UInt8) (g : Good p d) (hB : TxsB p.txns) (hpI : PlanI p) (hl : l.length ≤ 100000) (hne : (splitS l).length ≠ 3) :
 FnE CC 18 1 [.off 0 0,.im (IV.str l)] (tabH 62 p d) (.im (IV.str (lineS p d l).1)) (tabH 62 p (lineS p d l).2) 1 [0] := by
 have hE : splitD p d (splitS l) = (errT 1,d) := by
  unfold splitD
  split
  ·rename_i e;rw [e] at hne;exact absurd rfl hne
  ·rfl
 obtain ⟨ws,hs⟩ : ∃ ws,splitS l = ws := ⟨_,rfl⟩
 rw [hs] at hne
 refine FnE.of_wp _ [(0,0)] Tryz.func18 rfl (by kernel_rfl) Tryz.ntmps18 rfl rfl rfl rfl rfl rfl rfl rfl rfl ?_
 intro F vs hD hvs
 obtain ⟨v0,v1,rfl⟩ := len2 hvs
 show WP _ _ _ _ _ ⟨[(0,.is v0 (.off 0 0)),(1,.im (IV.str l))],tabH 62 p d,1⟩
 (refine zR ?_;refine sI ?_;refine zN ?_)
 (refine zR ?_;refine sI ?_;refine zN ?_)
 (refine zR ?_;refine sI ?_;refine ALK.n (o3 (uk l hl) (Evs.cons Ev.a Evs.nil)) rfl ?_;refine sI ?_;refine zN ?_)
 rw [hs]
 (refine zR ?_;(iterate 2 refine sA ?_);refine ALK.n (oC (c := false) (eB rfl) (eB rfl) (by simp [cmpI];omega)) rfl ?_;refine sA ?_;refine ALK.no rfl rfl rfl rfl ?_;refine ALK.no rfl rfl rfl rfl ?_;refine ALK.no rfl rfl rfl rfl ?_;refine ALK.no rfl rfl rfl rfl ?_;refine ALK.no rfl rfl rfl rfl ?_;refine ALK.no2 rfl rfl rfl ?_;refine ALK.no2 rfl rfl rfl ?_;refine ALK.no2 rfl rfl rfl ?_;refine ALK.no2 rfl rfl rfl ?_;refine ALK.no rfl rfl rfl rfl ?_;refine ALK.no rfl rfl rfl rfl ?_;refine ALK.no2 rfl rfl rfl ?_;refine ALK.no2 rfl rfl rfl ?_;refine ALK.no2 rfl rfl rfl ?_;refine ALK.no2 rfl rfl rfl ?_;refine ALK.no rfl rfl rfl rfl ?_;refine ALK.n (yU (eB rfl) (eB rfl)) rfl ?_;refine zN ?_)
 refine zC (fun h => ?_) (fun h => ?_)
 ·cases h
 refine zS ?_
 clear h
 (refine zR ?_;refine sI ?_;refine zN ?_)
 refine zB ?_
 (refine zR ?_;refine ALK.n (oa (a := l) (b := sCan) (eB rfl) (eB rfl) rfl) rfl ?_;refine sI ?_;refine zN ?_)
 refine zC (fun h => ?_) (fun h => ?_)
 ·have e : l = sCan := by simpa using h
  clear h
  have hr : lineS p d l = (if overB p d.s then sOver else canT (canL p d.s),d) := by unfold lineS;rw [if_pos e]
  rw [hr]
  (refine zW ?_;(iterate 2 refine sI ?_);refine fI 0 ?_;(iterate 3 refine sI ?_);refine fI 3 ?_;refine sI ?_;refine ALK.n (o3 (vd p d.s g.v) (Evs.cons Ev.a (Evs.cons Ev.a Evs.nil))) rfl ?_;refine zD ?_)
  refine zC (fun h => ?_) (fun h => ?_)
  ·rw [if_pos h]
   (refine zR ?_;refine sI ?_;refine zN ?_)
   exact zT Tryz.results18
  refine zS ?_
  rw [if_neg (by rw [h];simp)]
  (refine zW ?_;(iterate 2 refine sI ?_);refine fI 0 ?_;(iterate 3 refine sI ?_);refine fI 3 ?_;refine sI ?_;refine ALK.n (o3 (CanOf_fn p d.s g.v) (Evs.cons Ev.a (Evs.cons Ev.a Evs.nil))) rfl ?_;refine ALK.n (o3 (ref_steps_fn (canL p d.s) (can_len g.v) (fun x hx => jY g.v hx) (fun x hx => by have := can_rng g.v hx;unfold I64;omega)) (Evs.cons Ev.a Evs.nil)) rfl ?_;refine sI ?_;refine zD ?_)
  exact zT Tryz.results18
 have n1 : l ≠ sCan := by simpa using h
 clear h
 (refine zR ?_;refine ALK.n (oa (a := l) (b := sStore) (eB rfl) (eB rfl) rfl) rfl ?_;refine sI ?_;refine zN ?_)
 refine zC (fun h => ?_) (fun h => ?_)
 ·have e : l = sStore := by simpa using h
  clear h
  have hr : lineS p d l = (storeT d.s.store,d) := by unfold lineS;rw [if_neg n1,if_pos e]
  rw [hr]
  have h8 := g.v.store
  have hI := g.i.store
  obtain ⟨st,hst⟩ : ∃ st,st = d.s.store := ⟨_,rfl⟩
  obtain ⟨y0,hy0⟩ := oc (xs := d.s.store) (k := 0) (by omega)
  have hy0' : d.s.store[((0 : Int)).toNat]? = some y0 := hy0
  have i0 := hI y0 (List.mem_of_getElem? hy0)
  (refine zR ?_;(iterate 2 refine sI ?_);refine fI 3 ?_;refine fI 0 ?_;(iterate 3 refine sI ?_);refine ALK.n (o3 (oL y0 i0) (Evs.cons Ev.a Evs.nil)) rfl ?_;refine sI ?_;refine zN ?_)
  (refine zR ?_;refine sI ?_;refine zN ?_)
  refine zB ?_
  refine WP.loop (fun k : Nat => ⟨[(15,.im (IV.int k)),(14,.im (IV.str (storeT (d.s.store.take k)))),(0,.is v0 (.off 0 0))],tabH 62 p d,1⟩) (fun k => 1 ≤ k ∧ k ≤ 8) (fun k => 8 - k) 1 ⟨by omega,by omega⟩ (Shift.sub [(0,0)] rfl (SubE.cons rfl SLe.a (SubE.cons rfl (SLe.im (ILe.eq (by rw [store_one hy0]))) SubE.a)) (SubH.cons rfl rfl (ObLe.blk SLes.a) SubH.nil)) ?_
  rintro k ⟨hk1,hk8⟩
  (refine zR ?_;(iterate 2 refine sI ?_);refine zN ?_)
  refine zC (fun h => ?_) (fun h => ?_)
  ·refine zS ?_
   have hlt : k < 8 := by simp at h;omega
   clear h
   obtain ⟨y,hy⟩ := oc (xs := d.s.store) (k := k) (by omega)
   have hy' : d.s.store[((k : Nat) : Int).toNat]? = some y := by simpa using hy
   have iy := hI y (List.mem_of_getElem? hy)
   have ly := ua iy
   have lt := j1 (l := d.s.store.take k) (by rw [List.length_take];omega) (fun x hx => hI x (List.mem_of_mem_take hx))
   refine zB ?_
   (refine zR ?_;refine sI ?_;refine ALK.n (ol (b := [32]) (eB rfl) (eB rfl) (by simp;omega)) rfl ?_;(iterate 2 refine sI ?_);refine fI 3 ?_;refine fI 0 ?_;(iterate 4 refine sI ?_);refine ALK.n (o3 (oL y iy) (Evs.cons Ev.a Evs.nil)) rfl ?_;refine ALK.n (ol (eB rfl) (eB rfl) (by simp;omega)) rfl ?_;refine sI ?_;refine zN ?_)
   (refine zR ?_;(iterate 3 refine sI ?_);refine zN ?_)
   show ∃ _,_ ∧ _ ∧ _
   exact ⟨k + 1,⟨by omega,by omega⟩,by omega,Shift.sub [(0,0)] rfl (SubE.cons rfl SLe.a (SubE.cons rfl (SLe.im (ILe.eq (by rw [store_next hk1 hy]))) SubE.a)) (SubH.cons rfl rfl (ObLe.blk SLes.a) SubH.nil)⟩
  ·refine zE ?_
   have hke : k = 8 := by simp at h;omega
   subst hke
   have e8 : d.s.store.take 8 = d.s.store := List.take_of_length_le (by omega)
   rw [e8]
   (refine zR ?_;(iterate 2 refine sI ?_);refine zN ?_)
   exact zT Tryz.results18
 have n2 : l ≠ sStore := by simpa using h
 clear h
 (refine zR ?_;refine ALK.n (oa (a := l) (b := sRest) (eB rfl) (eB rfl) rfl) rfl ?_;refine sI ?_;refine zN ?_)
 refine zC (fun h => ?_) (fun h => ?_)
 ·have e : l = sRest := by simpa using h
  clear h
  have hr : lineS p d l = (digs (restN p d),restD p d) := by unfold lineS;rw [if_neg n1,if_neg n2,if_pos e]
  rw [hr]
  obtain ⟨_,_,r1,r2⟩ := g.rest hpI
  (refine zR ?_;refine sI ?_;refine zN ?_)
  (refine zW ?_;(iterate 3 refine sI ?_);refine fI 0 ?_;(iterate 3 refine sI ?_);refine fI 3 ?_;refine sI ?_;refine ALK.n (o3 (Rest_fn p d.s g.v hB) (Evs.cons Ev.a (Evs.cons Ev.a Evs.nil))) rfl ?_;(iterate 4 refine sI ?_);refine fI 3 ?_;(iterate 2 refine sI ?_);refine zD ?_)
  (refine zR ?_;refine sI ?_;refine ALK.n (o3 (oL (restN p d) (I64.small (by omega) (by omega))) (Evs.cons Ev.a Evs.nil)) rfl ?_;refine sI ?_;refine zN ?_)
  exact zT Tryz.results18
 have n3 : l ≠ sRest := by simpa using h
 clear h
 (refine zR ?_;refine ALK.n (oa (a := l) (b := sAudit) (eB rfl) (eB rfl) rfl) rfl ?_;refine sI ?_;refine zN ?_)
 refine zC (fun h => ?_) (fun h => ?_)
 ·have e : l = sAudit := by simpa using h
  clear h
  have hr : lineS p d l = (if resE p d.s = 0 then digs (auditN p d) else errT (resE p d.s),d) := by unfold lineS;rw [if_neg n1,if_neg n2,if_neg n3,if_pos e]
  rw [hr]
  (refine zW ?_;(iterate 2 refine sI ?_);refine fI 0 ?_;(iterate 3 refine sI ?_);refine fI 3 ?_;refine sI ?_;refine ALK.n (o3 (ResultsOf_fn p d.s hB) (Evs.cons Ev.a (Evs.cons Ev.a Evs.nil))) rfl ?_;(iterate 5 refine sI ?_);refine zD ?_)
  (refine zR ?_;(iterate 2 refine sI ?_);refine zN ?_)
  have hk := v6 g.v
  refine zC (fun h => ?_) (fun h => ?_)
  ·have h1 : ¬ resE p d.s = 0 := by simpa using h
   rw [if_neg h1]
   (refine zR ?_;(iterate 2 refine sI ?_);refine ALK.n (oW (eB rfl) (oT (resE p d.s) (I64.small (by omega) (by omega))) (Evs.cons Ev.a Evs.nil)) rfl ?_;refine sI ?_;refine zN ?_)
   exact zT Tryz.results18
  refine zS ?_
  have h1 : resE p d.s = 0 := by simpa using h
  rw [if_pos h1]
  have ha := g.audit
  (refine zW ?_;(iterate 2 refine sI ?_);refine fI 2 ?_;(iterate 3 refine sI ?_);refine fI 0 ?_;refine fI 1 ?_;(iterate 3 refine sI ?_);refine fI 3 ?_;refine fI 0 ?_;(iterate 2 refine sI ?_);refine ALK.n (o3 (AuditOf_fn d.first p.txns d.s.store (resR p d.s) hB) (Evs.cons Ev.a (Evs.cons Ev.a (Evs.cons Ev.a (Evs.cons Ev.a Evs.nil))))) rfl ?_;(iterate 5 refine sI ?_);refine zD ?_)
  (refine zR ?_;refine sI ?_;refine ALK.n (o3 (oL (auditN p d) (I64.small (by omega) (by omega))) (Evs.cons Ev.a Evs.nil)) rfl ?_;refine sI ?_;refine zN ?_)
  exact zT Tryz.results18
 have n4 : l ≠ sAudit := by simpa using h
 clear h
 refine zS ?_
 have hr : lineS p d l = (errT 1,d) := by unfold lineS;rw [if_neg n1,if_neg n2,if_neg n3,if_neg n4];exact hE
 rw [hr]
 (refine zR ?_;refine sI ?_;refine ALK.n (oW (eB rfl) (oT 1 (I64.small (by omega) (by omega))) (Evs.cons Ev.a Evs.nil)) rfl ?_;refine sI ?_;refine zN ?_)
 exact zT Tryz.results18
theorem ref_given_fn (p : Plan) (d : Dk) (l : List UInt8) (g : Good p d) (hB : TxsB p.txns) (hpI : PlanI p) (hl : l.length ≤ 100000) :
 FnE CC 18 1 [.off 0 0,.im (IV.str l)] (tabH 62 p d) (.im (IV.str (lineS p d l).1)) (tabH 62 p (lineS p d l).2) 1 [0] := by
 by_cases h3 : (splitS l).length = 3
 ·obtain ⟨w,a,b,hs⟩ := len3 h3
  by_cases h1 : w = sPut
  ·subst h1;exact given_put p d l a b g hB hl hs
  by_cases h2 : w = sRead
  ·subst h2;exact given_read p d l a b g hB hl hs
  by_cases h4 : w = sWrite
  ·subst h4;exact given_write p d l a b g hB hl hs
  exact given_none p d l w a b g hB hpI hl hs (by unfold idxW;rw [if_neg h1,if_neg h2,if_neg h4])
 ·exact given_len p d l g hB hpI hl h3
end Go.Proofs.YtjgmbgfcffnanaaGreatDoor
