/- Package steps: what a hall tells; Check and Over. The reference's clash; what the hall tells of free ways; what may be, in the program and in the reference. -/
import Derived.Test.YtjgmbgfcffnanaaGreatDoorZ21
set_option maxRecDepth 100000
set_option maxHeartbeats 4000000
namespace Go.Proofs.YtjgmbgfcffnanaaGreatDoor
open Go.RowKit
theorem IndexSeat_fn (xs : List SeatT) (f : FuncId) (caps : List IV) (p : SeatT → Bool) (hf : ∀ x ∈ xs,Fn CC f ([IV.agg (cSeat x)] ++ caps) (IV.bool (p x))) : Fn CC 159 [IV.view 4 cSeat xs,IV.fn f caps] (IV.int (idxP p xs)) := by
 refine Fn.of_wp _ Tryz.func159 rfl (by kernel_rfl) Tryz.ntmps159 rfl ?_
 intro F hD hG
 refine WP.len 0 rfl (fun hl1 => ?_)
 (refine zR ?_;refine sA ?_;refine zN ?_)
 (refine zR ?_;(iterate 3 refine sA ?_);refine zN ?_)
 refine zB ?_
 refine WP.loop (fun k : Nat => ⟨[(8,.im (IV.int k)),(7,.im (IV.int xs.length)),(0,.im (IV.view 4 cSeat xs)),(1,.im (IV.fn f caps))],[],0⟩) (fun k => k ≤ xs.length ∧ ∀ y ∈ xs.take k,p y = false) (fun k => xs.length - k) 0 ⟨Nat.zero_le _,by simp⟩ (Shift.sub [] rfl SubE.a SubH.nil) ?_
 rintro k ⟨hk,he⟩
 (refine zR ?_;refine sA ?_;refine zN ?_)
 refine zC (fun h => ?_) (fun h => ?_)
 ·refine zS ?_
  have hlt : k < xs.length := by simpa using h
  obtain ⟨x,hx⟩ := oc hlt
  refine zB ?_
  (refine zR ?_;(iterate 2 refine sA ?_);refine zN ?_)
  (refine zR ?_;(iterate 5 refine sA ?_);refine ALK.n (oW (by first | exact Ev.base rfl | exact Ev.cnd rfl (by assumption)) (hf x (List.mem_of_getElem? hx)) (Evs.cons Ev.a Evs.nil)) rfl ?_;refine zN ?_)
  refine zC (fun h => ?_) (fun h => ?_)
  ·(refine zR ?_;(iterate 2 refine sA ?_);refine zN ?_)
   have hr : idxP p xs = k := idxP_at he hx h
   exact zT Tryz.results159
  refine zS ?_
  (refine zR ?_;(iterate 2 refine sA ?_);refine zN ?_)
  show ∃ _,_ ∧ _ ∧ _
  exact ⟨k + 1,⟨by omega,v8 he hx h⟩,by omega,(Shift.sub [] rfl SubE.a SubH.nil)⟩
 ·refine zE ?_
  (refine zR ?_;refine sA ?_;refine zN ?_)
  have hr : idxP p xs = -1 := qH (by rw [List.take_of_length_le (by simp at h;omega)] at he;exact he)
  exact zT Tryz.results159
theorem jt (xs : List SeatT) (f : FuncId) (caps : List IV) (p : SeatT → Bool) (hf : ∀ x ∈ xs,Fn CC f ([IV.agg (cSeat x)] ++ caps) (IV.bool (p x))) : Fn CC 119 [IV.view 4 cSeat xs,IV.fn f caps] (IV.bool (xs.any p)) := by
 refine Fn.of_wp _ Tryz.func119 rfl (by kernel_rfl) Tryz.ntmps119 rfl ?_
 intro F hD hG
 (refine zR ?_;refine sA ?_;refine zN ?_)
 (refine zR ?_;(iterate 2 refine sA ?_);refine ALK.n (o3 (IndexSeat_fn _ _ _ p hf) (Evs.cons Ev.a (Evs.cons Ev.a Evs.nil))) rfl ?_;(iterate 2 refine sA ?_);refine zN ?_)
 have hr : xs.any p = decide (idxP p xs ≥ 0) := (idxP_ge _ _).symm
 exact zT Tryz.results119
def sGone (x : SeatT) : Bool := !x.part || x.wrote || (x.read && !x.active)
def sLack (x : SeatT) : Bool := x.part && !x.read
theorem gone_fn (x : SeatT) : Fn CC 121 [IV.agg (cSeat x)] (IV.bool (sGone x)) := by
 refine Fn.of_wp _ Tryz.func121 rfl (by kernel_rfl) Tryz.ntmps121 rfl ?_
 intro F hD hG
 (refine zR ?_;(iterate 2 refine sA ?_);refine zN ?_)
 (refine zR ?_;refine fd 0 ?_;(iterate 3 refine sA ?_);refine gF 3 ?_;refine gA ?_;(iterate 2 refine sA ?_);refine gF 2 ?_;(iterate 2 refine gA ?_);refine gF 1 ?_;(iterate 2 refine gA ?_);refine ALK.g (fun hb => oU (eC rfl hb) rfl (fun hb2 => by first | exact hb2 | (rw [hb,hb2];rfl) | simp_all [gd]) rfl) rfl rfl rfl ?_;(iterate 2 refine sA ?_);refine zN ?_)
 have hr : sGone x = (!x.part || x.wrote || (x.read && !x.active)) := rfl
 exact zT Tryz.results121
theorem all1_fn (x : SeatT) : Fn CC 192 [IV.agg (cSeat x)] (IV.bool (sLack x)) := by
 refine Fn.of_wp _ Tryz.func192 rfl (by kernel_rfl) Tryz.ntmps192 rfl ?_
 intro F hD hG
 (refine zR ?_;(iterate 2 refine sA ?_);refine zN ?_)
 (refine zR ?_;refine fd 0 ?_;(iterate 2 refine sA ?_);refine gF 2 ?_;(iterate 2 refine gA ?_);(iterate 2 refine sA ?_);refine zN ?_)
 have hr : sLack x = (x.part && !x.read) := rfl
 exact zT Tryz.results192
theorem Ended1_fn (x : SeatT) : Fn CC 120 [IV.agg (cSeat x)] (IV.bool (!sGone x)) := by
 refine Fn.of_wp _ Tryz.func120 rfl (by kernel_rfl) Tryz.ntmps120 rfl ?_
 intro F hD hG
 (refine zR ?_;(iterate 2 refine sA ?_);refine zN ?_)
 (refine zR ?_;refine sA ?_;refine ALK.n (o3 (gone_fn x) (Evs.cons Ev.a Evs.nil)) rfl ?_;(iterate 2 refine sA ?_);refine zN ?_)
 exact zT Tryz.results120
theorem all_row {p : Plan} {s : StT} {n : Nat} : (seatRow p s n (mS p)).any sLack = !allB p s n := by
 unfold seatRow allB
 rw [List.any_map,List.not_all_eq_any_not]
 congr 1
 funext k
 simp [seatOf,sLack,Function.comp]
theorem gone_row {p : Plan} {s : StT} {n k : Nat} : sGone (seatOf p s n k) = goneB p s n k := rfl
theorem all_fn (p : Plan) (s : StT) (n : Nat) (hn : n < nT p) : Fn CC 171 [hallV p s,IV.int n] (IV.bool (allB p s n)) := by
 have hx := q7 (p := p) (s := s) hn
 refine Fn.of_wp _ Tryz.func171 rfl (by kernel_rfl) Tryz.ntmps171 rfl ?_
 intro F hD hG
 (refine zR ?_;refine sA ?_;refine zN ?_)
 (refine zR ?_;(iterate 2 refine sA ?_);refine fd 5 ?_;(iterate 4 refine sA ?_);refine ALK.n (o3 (jt (seatRow p s n (mS p)) _ [] sLack (fun x _ => all1_fn x)) (Evs.cons Ev.a (Evs.cons Ev.a Evs.nil))) rfl ?_;(iterate 2 refine sA ?_);refine zN ?_)
 have hr : allB p s n = !(seatRow p s n (mS p)).any sLack := by rw [all_row];simp
 exact zT Tryz.results171
theorem fineB_at {p : Plan} {s : StT} {n k : Nat} (hn : n < nT p) (hk : k < mS p) (h : fineAt p s n k = false) : fineB p s = false := by
 cases hf : fineB p s with
 | false => rfl
 | true =>
  unfold fineB at hf
  have := List.all_eq_true.1 (List.all_eq_true.1 hf n (List.mem_range.2 hn)) k (List.mem_range.2 hk)
  rw [h] at this;cases this
theorem fine_fn (p : Plan) (s : StT) (hn8 : nT p ≤ 8) (hm4 : mS p ≤ 4) : Fn CC 162 [hallV p s] (IV.bool (fineB p s)) := by
 have hl : (seatsL p s (nT p)).length = nT p := by simp [seatsL]
 refine Fn.of_wp _ Tryz.func162 rfl (by kernel_rfl) Tryz.ntmps162 rfl ?_
 intro F hD hG
 (refine zR ?_;refine sA ?_;refine zN ?_)
 (refine zR ?_;(iterate 2 refine sA ?_);refine fd 5 ?_;(iterate 3 refine sA ?_);refine zN ?_)
 refine zB ?_
 refine WP.loop (fun n : Nat => ⟨[(12,.im (IV.int n)),(10,.im (seatsV (seatsL p s (nT p)))),(11,.im (IV.int (seatsL p s (nT p)).length)),(0,.im (hallV p s))],[],0⟩) (fun n => n ≤ nT p ∧ ∀ i,i < n → ∀ j,j < mS p → fineAt p s i j = true) (fun n => nT p - n) 0 ⟨Nat.zero_le _,fun i hi => by omega⟩ (Shift.sub [] rfl SubE.a SubH.nil) ?_
 rintro n ⟨hn,hf⟩
 (refine zR ?_;refine sA ?_;refine zN ?_)
 refine zC (fun h => ?_) (fun h => ?_)
 ·refine zS ?_
  have hlt : n < nT p := by simp [hl] at h;omega
  have hx := q7 (p := p) (s := s) hlt
  have hrl : (seatRow p s n (mS p)).length = mS p := by simp [seatRow]
  refine zB ?_
  (refine zR ?_;(iterate 5 refine sA ?_);refine zN ?_)
  (refine zR ?_;(iterate 3 refine sA ?_);refine zN ?_)
  refine zB ?_
  refine WP.loop (fun k : Nat => ⟨[(19,.im (IV.int k)),(17,.im (IV.view 4 cSeat (seatRow p s n (mS p)))),(18,.im (IV.int (seatRow p s n (mS p)).length)),(3,.im (IV.int n)),(12,.im (IV.int n)),(10,.im (seatsV (seatsL p s (nT p)))),(11,.im (IV.int (seatsL p s (nT p)).length)),(0,.im (hallV p s))],[],0⟩) (fun k => k ≤ mS p ∧ ∀ j,j < k → fineAt p s n j = true) (fun k => mS p - k) 0 ⟨Nat.zero_le _,fun i hi => by omega⟩ (Shift.sub [] rfl SubE.a SubH.nil) ?_
  rintro k ⟨hk,hg⟩
  (refine zR ?_;refine sA ?_;refine zN ?_)
  refine zC (fun h => ?_) (fun h => ?_)
  ·refine zS ?_
   have hkm : k < mS p := by simp [hrl] at h;omega
   have hy := jm (p := p) (s := s) (n := n) hkm
   refine zB ?_
   (refine zR ?_;(iterate 4 refine sA ?_);refine zN ?_)
   refine WP.shift (Shift.frzBlk 6 rfl rfl rfl) ?_
   (refine zR ?_;refine fd 2 ?_;(iterate 2 refine sA ?_);refine gF 0 ?_;(iterate 2 refine gA ?_);(iterate 2 refine sA ?_);refine gF 3 ?_;(iterate 2 refine gA ?_);refine gF 1 ?_;(iterate 5 refine gA ?_);refine ALK.g2 (fun hb => o3 (all_fn p s n hlt) (Evs.cons Ev.a (Evs.cons Ev.a Evs.nil))) rfl rfl rfl ?_;refine gA ?_;refine ALK.g2 (fun hb => ue (eC rfl hb) rfl rfl (fun hb2 => by first | (rw [hb2];rfl) | (rw [hb,hb2];rfl) | simp_all [gd])) rfl rfl rfl ?_;refine ALK.g (fun hb => oU (eC rfl hb) rfl (fun hb2 => by first | exact hb2 | (rw [hb,hb2];rfl) | simp_all [gd]) rfl) rfl rfl rfl ?_;refine sA ?_;refine zN ?_)
   have hq : fineAt p s n k = !((bAt s.rd n k && !prt p n k) || (bAt s.wr n k && (!act p n k || !allB p s n))) := rfl
   refine zC (fun h => ?_) (fun h => ?_)
   ·(refine zR ?_;refine sA ?_;refine zN ?_)
    have hr : fineB p s = false := fineB_at hlt hkm (by rw [hq];simp only [seatOf] at h;generalize bAt s.rd n k = a at h ⊢;generalize prt p n k = b at h ⊢;generalize bAt s.wr n k = c at h ⊢;generalize act p n k = d at h ⊢;generalize allB p s n = e at h ⊢;revert h;cases a <;> cases b <;> cases c <;> cases d <;> cases e <;> simp)
    exact zT Tryz.results162
   refine zS ?_
   (refine zR ?_;(iterate 2 refine sA ?_);refine zN ?_)
   show ∃ _,_ ∧ _ ∧ _
   refine ⟨k + 1,⟨by omega,fun j hj => ?_⟩,by omega,(Shift.sub [] rfl SubE.a SubH.nil)⟩
   by_cases e : j = k
   ·subst e;rw [hq];simp only [seatOf] at h;generalize bAt s.rd n j = a at h ⊢;generalize prt p n j = b at h ⊢;generalize bAt s.wr n j = c at h ⊢;generalize act p n j = d at h ⊢;generalize allB p s n = e at h ⊢;revert h;cases a <;> cases b <;> cases c <;> cases d <;> cases e <;> simp
   ·exact hg j (by omega)
  ·refine zE ?_
   have hkm : k = mS p := by simp [hrl] at h;omega
   subst hkm
   (refine zR ?_;(iterate 2 refine sA ?_);refine zN ?_)
   show ∃ _,_ ∧ _ ∧ _
   refine ⟨n + 1,⟨by omega,fun i hi => ?_⟩,by omega,(Shift.sub [] rfl SubE.a SubH.nil)⟩
   by_cases e : i = n
   ·subst e;exact hg
   ·exact hf i (by omega)
 ·refine zE ?_
  have hn2 : n = nT p := by simp [hl] at h;omega
  subst hn2
  (refine zR ?_;refine sA ?_;refine zN ?_)
  have hr : fineB p s = true := by
   unfold fineB
   simp only [List.all_eq_true,List.mem_range]
   exact hf
  exact zT Tryz.results162
theorem Ended_fn (p : Plan) (s : StT) (hS : Shp p s) (hb : TxsB p.txns) : Fn CC 84 [planV p,stV s] (IV.bool (overB p s)) := by
 obtain ⟨hm,hm1,hm4,hn8,hall⟩ := oO hS.plan
 have hl : (seatsL p s (nT p)).length = nT p := by simp [seatsL]
 refine Fn.of_wp _ Tryz.func84 rfl (by kernel_rfl) Tryz.ntmps84 rfl ?_
 intro F hD hG
 (refine zR ?_;(iterate 3 refine sA ?_);refine zN ?_)
 (refine zR ?_;refine sA ?_;refine ALK.n (o3 (of_fn p s hS hb) (Evs.cons Ev.a (Evs.cons Ev.a Evs.nil))) rfl ?_;refine sA ?_;refine fd 5 ?_;(iterate 3 refine sA ?_);refine zN ?_)
 refine zB ?_
 refine WP.loop (fun n : Nat => ⟨[(13,.im (IV.int n)),(11,.im (seatsV (seatsL p s (nT p)))),(12,.im (IV.int (seatsL p s (nT p)).length))],[],0⟩) (fun n => n ≤ nT p ∧ ∀ i,i < n → ∀ j,j < mS p → goneB p s i j = true) (fun n => nT p - n) 0 ⟨Nat.zero_le _,fun i hi => by omega⟩ (Shift.sub [] rfl SubE.a SubH.nil) ?_
 rintro n ⟨hn,hf⟩
 (refine zR ?_;refine sA ?_;refine zN ?_)
 refine zC (fun h => ?_) (fun h => ?_)
 ·refine zS ?_
  have hlt : n < nT p := by simp [hl] at h;omega
  have hx := q7 (p := p) (s := s) hlt
  refine zB ?_
  (refine zR ?_;(iterate 3 refine sA ?_);refine zN ?_)
  (refine zR ?_;refine sA ?_;refine ALK.n (o3 (jt (seatRow p s n (mS p)) _ [] (fun x => !sGone x) (fun x _ => Ended1_fn x)) (Evs.cons Ev.a (Evs.cons Ev.a Evs.nil))) rfl ?_;refine zN ?_)
  have hq : (seatRow p s n (mS p)).any (fun x => !sGone x) = !(List.range (mS p)).all fun k => goneB p s n k := by
   unfold seatRow
   rw [List.any_map,List.not_all_eq_any_not]
   rfl
  refine zC (fun h => ?_) (fun h => ?_)
  ·(refine zR ?_;refine sA ?_;refine zN ?_)
   have hr : overB p s = false := by
    rw [hq] at h
    cases ho : overB p s with
    | false => rfl
    | true =>
     unfold overB at ho
     rw [List.all_eq_true.1 ho n (List.mem_range.2 hlt)] at h
     cases h
   exact zT Tryz.results84
  refine zS ?_
  (refine zR ?_;(iterate 2 refine sA ?_);refine zN ?_)
  show ∃ _,_ ∧ _ ∧ _
  refine ⟨n + 1,⟨by omega,fun i hi => ?_⟩,by omega,(Shift.sub [] rfl SubE.a SubH.nil)⟩
  by_cases e : i = n
  ·subst e
   rw [hq,Bool.not_eq_false',List.all_eq_true] at h
   exact fun j hj => h j (List.mem_range.2 hj)
  ·exact hf i (by omega)
 ·refine zE ?_
  have hn2 : n = nT p := by simp [hl] at h;omega
  subst hn2
  (refine zR ?_;refine sA ?_;refine zN ?_)
  have hr : overB p s = true := qG.2 fun i j hi hj => hf i hi j hj
  exact zT Tryz.results84
theorem ur {p : Plan} {s : StT} {n : Nat} : rowsOk p s n = true ↔ (s.rd.getD n []).length = mS p ∧ (s.wr.getD n []).length = mS p ∧ (s.vals.getD n []).length = (txN p n).reads.length := by
 unfold rowsOk
 simp only [Bool.and_eq_true,decide_eq_true_eq,and_assoc]
theorem yK {p : Plan} {s : StT} (hp : checkPlan p = 0) (h : (shapeB p s && fineB p s) = false) : checkState p s = 1 := by unfold checkState;rw [if_pos hp,h];rfl
theorem shape_no {p : Plan} {s : StT} {n : Nat} (hn : n < nT p) (h : rowsOk p s n = false) : shapeB p s = false := by
 cases hs : shapeB p s with
 | false => rfl
 | true =>
  have := (y9.1 hs).2.2.2.2 n hn
  rw [← ur,h] at this;cases this
theorem jy (p : Plan) (s : StT) (hb : TxsB p.txns) : Fn CC 125 [planV p,stV s] (IV.int (checkState p s)) := by
 refine Fn.of_wp _ Tryz.func125 rfl (by kernel_rfl) Tryz.ntmps125 rfl ?_
 intro F hD hG
 (refine zR ?_;(iterate 3 refine sA ?_);refine zN ?_)
 (refine zR ?_;refine sA ?_;refine ALK.n (o3 (yA _ (by assumption)) (Evs.cons Ev.a Evs.nil)) rfl ?_;refine sA ?_;refine zN ?_)
 (refine zR ?_;(iterate 2 refine sA ?_);refine zN ?_)
 refine zC (fun h => ?_) (fun h => ?_)
 ·(refine zR ?_;(iterate 2 refine sA ?_);refine zN ?_)
  have hr : checkState p s = checkPlan p := by unfold checkState;rw [if_neg (by simpa using h)]
  rw [hr]
  exact zT Tryz.results125
 refine zS ?_
 have hp : checkPlan p = 0 := by simpa using h
 clear h
 obtain ⟨hm,hm1,hm4,hn8,hall⟩ := oO hp
 have hnT : nT p = p.txns.length := rfl
 (refine zR ?_;refine fd 1 ?_;(iterate 3 refine sA ?_);refine zN ?_)
 (refine zR ?_;refine fd 0 ?_;refine sA ?_;refine ALK.n (o3 (yP s.store) (Evs.cons Ev.a Evs.nil)) rfl ?_;(iterate 2 refine sA ?_);refine gF 1 ?_;(iterate 4 refine gA ?_);(iterate 2 refine sA ?_);refine gF 2 ?_;(iterate 4 refine gA ?_);(iterate 2 refine sA ?_);refine gF 3 ?_;(iterate 4 refine gA ?_);refine sA ?_;refine zN ?_)
 refine zC (fun h => ?_) (fun h => ?_)
 ·(refine zR ?_;refine sA ?_;refine zN ?_)
  have hr : checkState p s = 1 := yK hp (by
   cases hs : shapeB p s with
   | false => rfl
   | true =>
    obtain ⟨a,b,c,d,_⟩ := y9.1 hs
    rw [if_pos a] at h
    simp at h;omega)
  rw [hr]
  exact zT Tryz.results125
 refine zS ?_
 have hlens : s.store.length = 8 ∧ s.rd.length = nT p ∧ s.wr.length = nT p ∧ s.vals.length = nT p := by
  by_cases a : s.store.length = 8
  ·rw [if_pos a] at h
   simp at h;omega
  ·rw [if_neg a] at h
   simp at h
 clear h
 obtain ⟨l1,l2,l3,l4⟩ := hlens
 (refine zR ?_;refine fd 1 ?_;(iterate 3 refine sA ?_);refine zN ?_)
 refine zB ?_
 refine WP.loop (fun n : Nat => ⟨[(45,.im (IV.int n)),(43,.im (txsV p.txns)),(44,.im (IV.int p.txns.length)),(2,.im (IV.ptr (cP p))),(3,.im (IV.ptr (cSt s)))],[],0⟩) (fun n => n ≤ nT p ∧ ∀ i,i < n → rowsOk p s i = true) (fun n => nT p - n) 0 ⟨Nat.zero_le _,fun i hi => by omega⟩ (Shift.sub [] rfl SubE.a SubH.nil) ?_
 rintro n ⟨hn,hf⟩
 (refine zR ?_;refine sA ?_;refine zN ?_)
 refine zC (fun h => ?_) (fun h => ?_)
 ·refine zS ?_
  have hlt : n < nT p := by simp at h;omega
  obtain ⟨ht,hok⟩ := hall n hlt
  have e1 : s.rd[n]? = some (s.rd.getD n []) := o9 [] (by omega)
  have e2 : s.wr[n]? = some (s.wr.getD n []) := o9 [] (by omega)
  have e3 : s.vals[n]? = some (s.vals.getD n []) := o9 [] (by omega)
  refine zB ?_
  (refine zR ?_;(iterate 6 refine sA ?_);refine zN ?_)
  refine WP.shift (Shift.frzBlk 8 rfl rfl rfl) ?_
  (refine zW ?_;refine fd 1 ?_;(iterate 5 refine sA ?_);refine fd 0 ?_;(iterate 3 refine sA ?_);refine gF 2 ?_;(iterate 5 refine gA ?_);refine gF 0 ?_;(iterate 2 refine gA ?_);(iterate 2 refine sA ?_);refine gF 3 ?_;(iterate 5 refine gA ?_);refine gF 0 ?_;(iterate 3 refine gA ?_);refine sA ?_;refine zD ?_)
  have hq := ur (p := p) (s := s) (n := n)
  refine zC (fun h => ?_) (fun h => ?_)
  ·(refine zR ?_;refine sA ?_;refine zN ?_)
   have hr : checkState p s = 1 := yK hp (by
    have : shapeB p s = false := shape_no hlt (by
     cases hs : rowsOk p s n with
     | false => rfl
     | true =>
      obtain ⟨a,b,c⟩ := hq.1 hs
      rw [a,b,c] at h
      simp at h;omega)
    rw [this];rfl)
   rw [hr]
   exact zT Tryz.results125
  refine zS ?_
  (refine zR ?_;(iterate 2 refine sA ?_);refine zN ?_)
  show ∃ _,_ ∧ _ ∧ _
  refine ⟨n + 1,⟨by omega,fun i hi => ?_⟩,by omega,(Shift.sub [] rfl SubE.a SubH.nil)⟩
  by_cases e : i = n
  ·subst e
   refine hq.2 ?_
   generalize (s.rd.getD i []).length = a at h ⊢
   generalize (s.wr.getD i []).length = b at h ⊢
   generalize (s.vals.getD i []).length = c at h ⊢
   simp at h
   omega
  ·exact hf i (by omega)
 ·refine zE ?_
  have hn2 : n = nT p := by simp at h;omega
  subst hn2
  have hs : shapeB p s = true := y9.2 ⟨l1,l2,l3,l4,fun i hi => ur.1 (hf i hi)⟩
  (refine zR ?_;refine sA ?_;refine ALK.n (o3 (of_fn p s ⟨hp,hs⟩ hb) (Evs.cons Ev.a (Evs.cons Ev.a Evs.nil))) rfl ?_;refine ALK.n (o3 (fine_fn p s hn8 hm4) (Evs.cons Ev.a Evs.nil)) rfl ?_;refine sA ?_;refine zN ?_)
  refine zC (fun h => ?_) (fun h => ?_)
  ·(refine zR ?_;refine sA ?_;refine zN ?_)
   have hr : checkState p s = 1 := yK hp (by rw [hs];simpa using h)
   rw [hr]
   exact zT Tryz.results125
  refine zS ?_
  (refine zR ?_;refine sA ?_;refine zN ?_)
  have hr : checkState p s = 0 := by
   unfold checkState
   rw [if_pos hp,if_pos (by rw [hs];simpa using h)]
  rw [hr]
  exact zT Tryz.results125
def overE (p : Plan) (s : StT) : Bool := decide (checkState p s = 0) && overB p s
theorem Over_fn (p : Plan) (s : StT) (hb : TxsB p.txns) : Fn CC 89 [planV p,stV s] (IV.tup [IV.bool (overE p s),IV.int (checkState p s)]) := by
 refine Fn.of_wp _ Tryz.func89 rfl (by kernel_rfl) Tryz.ntmps89 rfl ?_
 intro F hD hG
 (refine zR ?_;(iterate 4 refine sA ?_);refine zN ?_)
 (refine zR ?_;(iterate 2 refine sA ?_);refine ALK.n (o3 (jy p s hb) (Evs.cons Ev.a (Evs.cons Ev.a Evs.nil))) rfl ?_;refine sA ?_;refine zN ?_)
 (refine zR ?_;(iterate 2 refine sA ?_);refine zN ?_)
 refine zC (fun h => ?_) (fun h => ?_)
 ·(refine zR ?_;(iterate 3 refine sA ?_);refine zN ?_)
  have hr : overE p s = false := by unfold overE;rw [decide_eq_false (by simpa using h)];rfl
  rw [hr]
  exact zT Tryz.results89
 refine zS ?_
 have h0 : checkState p s = 0 := by simpa using h
 have v := ud.1 h0
 have hS : Shp p s := ⟨v.plan,y9.2 ⟨v.store,v.rdl,v.wrl,v.vall,fun n hn => ⟨v.rdr n hn,v.wrr n hn,v.valr n hn⟩⟩⟩
 have hr : overE p s = overB p s := by unfold overE;rw [decide_eq_true h0];rfl
 rw [hr,h0]
 (refine zR ?_;(iterate 2 refine sA ?_);refine ALK.n (o3 (Ended_fn p s hS hb) (Evs.cons Ev.a (Evs.cons Ev.a Evs.nil))) rfl ?_;(iterate 2 refine sA ?_);refine zN ?_)
 exact zT Tryz.results89
def lkB (t : Txn) (key : Int) : Bool := readsB t key || writesB t key
def clashAt (x y : Txn) (k : Int) : Bool := writesB x k && lkB y k || writesB y k && readsB x k
def clashTo (x y : Txn) (m s : Int) (n : Nat) : Bool := (List.range n).any fun j => decide ((j : Int) % m = s) && clashAt x y j
def clashR (x y : Txn) (m s : Int) : Bool := clashTo x y m s 8
theorem clashTo_next (x y : Txn) (m s : Int) (n : Nat) : clashTo x y m s (n + 1) = (clashTo x y m s n || (decide ((n : Int) % m = s) && clashAt x y n)) := by
 unfold clashTo;rw [List.range_succ,List.any_append];simp
theorem clashR_iff {x y : Txn} {m s : Int} : clashR x y m s = true ↔ ∃ k : Int,0 ≤ k ∧ k < 8 ∧ k % m = s ∧ clashAt x y k = true := by
 unfold clashR clashTo
 rw [List.any_eq_true]
 constructor
 ·rintro ⟨j,hj,h⟩
  rw [List.mem_range] at hj
  rw [Bool.and_eq_true,decide_eq_true_eq] at h
  exact ⟨j,by omega,by omega,h.1,h.2⟩
 ·rintro ⟨k,h0,h8,h1,h2⟩
  have hk : ((k.toNat : Nat) : Int) = k := by omega
  refine ⟨k.toNat,List.mem_range.2 (by omega),?_⟩
  rw [hk,Bool.and_eq_true,decide_eq_true_eq]
  exact ⟨h1,h2⟩
theorem clash_fn (x y : Txn) (m s : Int) (hm : 0 < m) : Fn CC 140 [txnV x,txnV y,IV.int m,IV.int s] (IV.bool (clashR x y m s)) := by
 refine Fn.of_wp _ Tryz.func140 rfl (by kernel_rfl) Tryz.ntmps140 rfl ?_
 intro F hD hG
 (refine zR ?_;(iterate 3 refine sA ?_);refine zN ?_)
 (refine zR ?_;refine sA ?_;refine zN ?_)
 refine zB ?_
 refine WP.loop (fun k : Nat => ⟨[(9,.im (IV.int k)),(2,.im (IV.int m)),(3,.im (IV.int s)),(4,.im (IV.ptr (cT x))),(5,.im (IV.ptr (cT y)))],[],0⟩) (fun k => k ≤ 8 ∧ clashTo x y m s k = false) (fun k => 8 - k) 0 ⟨by omega,rfl⟩ (Shift.sub [] rfl SubE.a SubH.nil) ?_
 rintro k ⟨hk,hf⟩
 (refine zR ?_;(iterate 2 refine sA ?_);refine zN ?_)
 refine zC (fun h => ?_) (fun h => ?_)
 ·refine zS ?_
  have hlt : k < 8 := by simp at h;omega
  have hn := clashTo_next x y m s k
  rw [hf,Bool.false_or] at hn
  refine zB ?_
  (refine zR ?_;(iterate 2 refine sA ?_);refine ALK.n (uj (eB rfl) (eB rfl) (by omega) (by omega)) rfl ?_;(iterate 2 refine sA ?_);refine zN ?_)
  refine zC (fun h => ?_) (fun h => ?_)
  ·refine zE ?_
   have hn2 : clashTo x y m s (k + 1) = false := by
    rw [hn]
    have : ¬ (k : Int) % m = s := by simpa using h
    simp [this]
   (refine zR ?_;(iterate 3 refine sA ?_);refine zN ?_)
   show ∃ _,_ ∧ _ ∧ _
   exact ⟨k + 1,⟨by omega,hn2⟩,by omega,(Shift.sub [] rfl SubE.a SubH.nil)⟩
  refine zS ?_
  have hs : (k : Int) % m = s := by simpa using h
  have hn3 : clashTo x y m s (k + 1) = clashAt x y k := by rw [hn,hs];simp
  (refine zR ?_;(iterate 2 refine sA ?_);refine ALK.n (o3 (u7 _ _) (Evs.cons Ev.a (Evs.cons Ev.a Evs.nil))) rfl ?_;refine sA ?_;(iterate 2 refine gA ?_);refine ALK.g (fun hb => o3 (jf _ _) (Evs.cons Ev.a (Evs.cons Ev.a Evs.nil))) rfl rfl rfl ?_;(iterate 3 refine gA ?_);refine ALK.g2 (fun hb => o3 (u7 _ _) (Evs.cons Ev.a (Evs.cons Ev.a Evs.nil))) rfl rfl rfl ?_;refine ALK.g (fun hb => ue (eC rfl hb) rfl rfl (fun hb2 => by first | (rw [hb2];rfl) | (rw [hb,hb2];rfl) | simp_all [gd])) rfl rfl rfl ?_;(iterate 2 refine sA ?_);(iterate 2 refine gA ?_);refine ALK.g (fun hb => o3 (u7 _ _) (Evs.cons Ev.a (Evs.cons Ev.a Evs.nil))) rfl rfl rfl ?_;(iterate 3 refine gA ?_);refine ALK.g2 (fun hb => o3 (jf _ _) (Evs.cons Ev.a (Evs.cons Ev.a Evs.nil))) rfl rfl rfl ?_;refine ALK.g (fun hb => oU (eC rfl hb) rfl (fun hb2 => by first | exact hb2 | (rw [hb,hb2];rfl) | simp_all [gd]) rfl) rfl rfl rfl ?_;refine sA ?_;refine zN ?_)
  refine zC (fun h => ?_) (fun h => ?_)
  ·have hr : clashR x y m s = true := by
    have h1 : clashAt x y k = true := by
     unfold clashAt lkB
     exact h
    unfold clashR clashTo
    rw [List.any_eq_true]
    exact ⟨k,List.mem_range.2 hlt,by rw [h1,hs];simp⟩
   (refine zR ?_;refine sA ?_;refine zN ?_)
   exact zT Tryz.results140
  refine zS ?_
  (refine zR ?_;(iterate 3 refine sA ?_);refine zN ?_)
  show ∃ _,_ ∧ _ ∧ _
  exact ⟨k + 1,⟨by omega,by rw [hn3];unfold clashAt lkB;exact h⟩,by omega,(Shift.sub [] rfl SubE.a SubH.nil)⟩
 ·refine zE ?_
  have hk8 : k = 8 := by simp at h;omega
  subst hk8
  have hr : clashR x y m s = false := hf
  (refine zR ?_;refine sA ?_;refine zN ?_)
  exact zT Tryz.results140
theorem has_iff' {xs : List Int} {k : Int} : has xs k = true ↔ k ∈ xs := by
 unfold has
 rw [List.any_eq_true]
 constructor
 ·rintro ⟨q,h1,h2⟩;have : k = q := by simpa using h2
  subst this;exact h1
 ·intro h;exact ⟨k,h,by simp⟩
theorem clash_here {x y : Txn} {m k : Nat} (hx : checkTxn x = 0) (hy : checkTxn y = 0) : byB (hereB m k) x y = clashR x y m k := by
 obtain ⟨a1,a2⟩ := yj hx
 obtain ⟨b1,b2⟩ := yj hy
 have hh : ∀ key : Int,0 ≤ key → (hereB m k key = true ↔ key % (m : Int) = (k : Int)) := fun key h0 => by
  unfold hereB
  rw [decide_eq_true_eq,Int.tmod_eq_emod_of_nonneg h0]
 rw [Bool.eq_iff_iff,clashR_iff]
 unfold byB
 rw [Bool.or_eq_true,List.any_eq_true,List.any_eq_true]
 constructor
 ·rintro (⟨key,h1,h2⟩ | ⟨key,h1,h2⟩)
  ·rw [Bool.and_eq_true,Bool.or_eq_true,has_iff',has_iff'] at h2
   obtain ⟨c0,c8⟩ := a2 key h1
   refine ⟨key,c0,c8,(hh key c0).1 h2.1,?_⟩
   unfold clashAt lkB
   simp only [Bool.or_eq_true,Bool.and_eq_true,jl,uG]
   exact .inl ⟨h1,h2.2.symm⟩
  ·rw [Bool.and_eq_true,has_iff'] at h2
   obtain ⟨c0,c8⟩ := b2 key h1
   refine ⟨key,c0,c8,(hh key c0).1 h2.1,?_⟩
   unfold clashAt lkB
   simp only [Bool.or_eq_true,Bool.and_eq_true,jl,uG]
   exact .inr ⟨h1,h2.2⟩
 ·rintro ⟨key,c0,c8,h1,h2⟩
  unfold clashAt lkB at h2
  simp only [Bool.or_eq_true,Bool.and_eq_true,jl,uG] at h2
  rcases h2 with ⟨h2,h3⟩ | ⟨h2,h3⟩
  ·exact .inl ⟨key,h2,by rw [Bool.and_eq_true,Bool.or_eq_true,has_iff',has_iff'];exact ⟨(hh key c0).2 h1,h3.symm⟩⟩
  ·exact .inr ⟨key,h2,by rw [Bool.and_eq_true,has_iff'];exact ⟨(hh key c0).2 h1,h3⟩⟩
section
variable {C : Cfg} {σ : Env} {d : Option Tmp} {ty : TypeId} {pos : String} {after : Array Edge} {gu : Option (Nat × Bool)}
theorem opn_remT {t t' : TypeId} {x y : Go.Operand} {a b : Int} (hx : Ev σ x (.im (IV.int a))) (hy : Ev σ y (.im (IV.int b))) (h1 : 0 < b) : OpN C ⟨d,.binOp .rem t x y t',ty,pos,after,gu⟩ σ (.im (IV.int (a.tmod b))) := OpN.pure fun ρ μ ac w hl ha => by
 have h2 := hx.val hl (by simp [Op.operands])
 have h3 := hy.val hl (by simp [Op.operands])
 refine ⟨_,?_,oi.2 rfl⟩
 have hb : ¬ b = 0 := by omega
 simp [execOp,h2,h3,ox,binOp,Op.intDiv,hb]
end
def cStp (x : StepT) : List IV := [IV.int x.kind,IV.int x.txn,IV.int x.shard]
abbrev stpV (x : StepT) : IV := IV.agg (cStp x)
abbrev stpsV (l : List StepT) : IV := IV.view 3 cStp l
theorem free1_fn (p : Plan) (s : StT) (key : Int) (k : Nat) (hm : p.shards = (mS p : Int)) (hm1 : 1 ≤ mS p) : Fn CC 190 [IV.int key,IV.ptr [hallV p s],IV.ptr [IV.int (k : Int)]] (IV.bool (hereB (mS p) k key)) := by
 refine Fn.of_wp _ Tryz.func190 rfl (by kernel_rfl) Tryz.ntmps190 rfl ?_
 intro F hD hG
 (refine zR ?_;refine sA ?_;refine zN ?_)
 (refine zW ?_;(iterate 3 refine sA ?_);refine fd 0 ?_;(iterate 2 refine sA ?_);refine fd 0 ?_;refine sA ?_;refine ALK.n (opn_remT (eB rfl) (eB rfl) (by omega)) rfl ?_;(iterate 3 refine sA ?_);refine zD ?_)
 have hr : hereB (mS p) k key = decide (key.tmod p.shards = (k : Int)) := by rw [hm];rfl
 exact zT Tryz.results190
theorem freeB_at {p : Plan} {s : StT} {n k j : Nat} (hj : j < n) (h1 : goneB p s j k = false) (h2 : byB (hereB (mS p) k) (txN p j) (txN p n) = true) : freeB p s n k = false := by
 cases hf : freeB p s n k with
 | false => rfl
 | true =>
  have := List.all_eq_true.1 hf j (List.mem_range.2 hj)
  rw [h1,h2] at this;cases this
theorem free_fn (p : Plan) (s : StT) (n k : Nat) (hp : checkPlan p = 0) (hb : TxsB p.txns) (hn : n < nT p) (hk : k < mS p) : Fn CC 170 [hallV p s,IV.int n,IV.int k] (IV.bool (freeB p s n k)) := by
 obtain ⟨hm,hm1,hm4,hn8,hall⟩ := oO hp
 obtain ⟨ht,hok⟩ := hall n hn
 have hbn : TxnB (txN p n) := hb _ (List.mem_of_getElem? ht)
 refine Fn.of_wp _ Tryz.func170 rfl (by kernel_rfl) Tryz.ntmps170 rfl ?_
 intro F hD hG
 (refine zR ?_;(iterate 3 refine sA ?_);refine zN ?_)
 (refine zR ?_;refine ALK.n (jg (Evs.cons Ev.a (Evs.cons Ev.a Evs.nil))) rfl ?_;refine sA ?_;refine zN ?_)
 (refine zR ?_;(iterate 2 refine sA ?_);refine zN ?_)
 refine zB ?_
 refine WP.loop (fun j : Nat => ⟨[(11,.im (IV.int j)),(10,.im (IV.int n)),(1,.im (IV.int n)),(3,.im (IV.ptr [hallV p s])),(5,.im (IV.ptr [IV.int k])),(7,.im (IV.fn 190 [IV.ptr [hallV p s],IV.ptr [IV.int k]]))],[],0⟩) (fun j => j ≤ n ∧ ∀ i,i < j → (goneB p s i k || !byB (hereB (mS p) k) (txN p i) (txN p n)) = true) (fun j => n - j) 0 ⟨Nat.zero_le _,fun i hi => by omega⟩ (Shift.sub [] rfl SubE.a SubH.nil) ?_
 rintro j ⟨hj,hf⟩
 (refine zR ?_;refine sA ?_;refine zN ?_)
 refine zC (fun h => ?_) (fun h => ?_)
 ·refine zS ?_
  have hlt : j < n := by simp at h;omega
  obtain ⟨htj,_⟩ := hall j (by omega)
  have hbj : TxnB (txN p j) := hb _ (List.mem_of_getElem? htj)
  have hx := q7 (p := p) (s := s) (show j < nT p by omega)
  have hy := jm (p := p) (s := s) (n := j) hk
  refine zB ?_
  (refine zR ?_;(iterate 2 refine sA ?_);refine zN ?_)
  (refine zW ?_;(iterate 2 refine sA ?_);refine fd 5 ?_;(iterate 7 refine sA ?_);refine ALK.n (o3 (gone_fn (seatOf p s j k)) (Evs.cons Ev.a Evs.nil)) rfl ?_;(iterate 2 refine sA ?_);(iterate 2 refine gA ?_);refine gF 0 ?_;(iterate 2 refine gA ?_);refine gF 1 ?_;(iterate 6 refine gA ?_);refine gF 0 ?_;(iterate 2 refine gA ?_);refine gF 1 ?_;(iterate 5 refine gA ?_);refine ALK.g (fun hb => o3 (By_fn (txN p j) (txN p n) _ _ (hereB (mS p) k) (fun key => free1_fn p s key k hm hm1) hbj hbn) (Evs.cons Ev.a (Evs.cons Ev.a (Evs.cons Ev.a Evs.nil)))) rfl rfl rfl ?_;refine sA ?_;refine zD ?_)
  refine zC (fun h => ?_) (fun h => ?_)
  ·(refine zR ?_;refine sA ?_;refine zN ?_)
   have hr : freeB p s n k = false := by
    rw [gone_row,Bool.and_eq_true,Bool.not_eq_true'] at h
    exact freeB_at hlt h.1 h.2
   exact zT Tryz.results170
  refine zS ?_
  (refine zR ?_;(iterate 2 refine sA ?_);refine zN ?_)
  show ∃ _,_ ∧ _ ∧ _
  refine ⟨j + 1,⟨by omega,fun i hi => ?_⟩,by omega,(Shift.sub [] rfl SubE.a SubH.nil)⟩
  by_cases e : i = j
  ·subst e
   rw [gone_row] at h
   revert h
   generalize goneB p s i k = a
   generalize byB (hereB (mS p) k) (txN p i) (txN p n) = b
   cases a <;> cases b <;> simp
  ·exact hf i (by omega)
 ·refine zE ?_
  have hj2 : j = n := by simp at h;omega
  subst hj2
  (refine zR ?_;refine sA ?_;refine zN ?_)
  have hr : freeB p s j k = true := by
   unfold freeB
   rw [List.all_eq_true]
   exact fun i hi => hf i (List.mem_range.1 hi)
  exact zT Tryz.results170
theorem may_fn (p : Plan) (s : StT) (kind : Int) (n k : Nat) (hp : checkPlan p = 0) (hB : TxsB p.txns) (hn : n < nT p) (hk : k < mS p) : Fn CC 134 [hallV p s,IV.agg [IV.int kind,IV.int (n : Int),IV.int (k : Int)]] (IV.bool (mayB p s kind n k)) := by
 have hx := q7 (p := p) (s := s) hn
 have hy := jm (p := p) (s := s) (n := n) hk
 refine Fn.of_wp _ Tryz.func134 rfl (by kernel_rfl) Tryz.ntmps134 rfl ?_
 intro F hD hG
 (refine zR ?_;(iterate 2 refine sA ?_);refine zN ?_)
 (refine zW ?_;(iterate 2 refine sA ?_);refine fd 5 ?_;refine sA ?_;refine fd 1 ?_;(iterate 3 refine sA ?_);refine fd 2 ?_;(iterate 5 refine sA ?_);refine zD ?_)
 refine WP.shift (Shift.frzBlk 5 rfl rfl rfl) ?_
 (refine zR ?_;refine fd 0 ?_;(iterate 2 refine sA ?_);refine zN ?_)
 refine zC (fun h => ?_) (fun h => ?_)
 ·(refine zR ?_;refine fd 0 ?_;(iterate 2 refine sA ?_);refine gF 2 ?_;(iterate 2 refine gA ?_);(iterate 2 refine sA ?_);refine gA ?_;refine gF 1 ?_;refine gA ?_;refine gF 2 ?_;refine gA ?_;refine ALK.g (fun hb => o3 (free_fn p s n k hp hB hn hk) (Evs.cons Ev.a (Evs.cons Ev.a (Evs.cons Ev.a Evs.nil)))) rfl rfl rfl ?_;(iterate 2 refine sA ?_);refine zN ?_)
  have h1 : kind = 1 := by simpa using h
  have hr : mayB p s kind n k = (prt p n k && !bAt s.rd n k && freeB p s n k) := by unfold mayB;rw [if_pos h1,Bool.and_assoc]
  exact zT Tryz.results134
 refine zS ?_
 (refine zR ?_;refine fd 1 ?_;(iterate 2 refine sA ?_);refine gF 3 ?_;(iterate 2 refine gA ?_);(iterate 2 refine sA ?_);refine gA ?_;refine gF 1 ?_;refine gA ?_;refine ALK.g (fun hb => o3 (all_fn p s n hn) (Evs.cons Ev.a (Evs.cons Ev.a Evs.nil))) rfl rfl rfl ?_;(iterate 2 refine sA ?_);refine zN ?_)
 have h1 : ¬ kind = 1 := by simpa using h
 have hr : mayB p s kind n k = (act p n k && !bAt s.wr n k && allB p s n) := by unfold mayB;rw [if_neg h1,Bool.and_assoc]
 exact zT Tryz.results134
end Go.Proofs.YtjgmbgfcffnanaaGreatDoor
