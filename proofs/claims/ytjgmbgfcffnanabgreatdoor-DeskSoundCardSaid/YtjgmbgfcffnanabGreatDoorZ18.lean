/- Package steps: the hall of a plan and a state. Package steps: what a hall tells; Check and Over. -/
import Derived.Test.YtjgmbgfcffnanabGreatDoorZ9
import Derived.Test.YtjgmbgfcffnanabGreatDoorZ14
set_option maxRecDepth 100000
set_option maxHeartbeats 4000000
namespace Go.Proofs.YtjgmbgfcffnanabGreatDoor
open Go.RowKit
abbrev bbV (l : List (List Bool)) : IV := IV.view 1 (encN 1 cB) l
abbrev iiV (l : List (List Int)) : IV := IV.view 1 (encN 1 cI) l
def cSt (s : StT) : List IV := [intsV s.store,bbV s.rd,bbV s.wr,iiV s.vals]
abbrev stV (s : StT) : IV := IV.agg (cSt s)
structure SeatT where
 part : Bool
 active : Bool
 read : Bool
 wrote : Bool
def cSeat (x : SeatT) : List IV := [IV.bool x.part,IV.bool x.active,IV.bool x.read,IV.bool x.wrote]
def seatOf (p : Plan) (s : StT) (n k : Nat) : SeatT := ⟨prt p n k,act p n k,bAt s.rd n k,bAt s.wr n k⟩
def seatRow (p : Plan) (s : StT) (n j : Nat) : List SeatT := (List.range j).map (seatOf p s n)
def seatsL (p : Plan) (s : StT) (j : Nat) : List (List SeatT) := (List.range j).map fun n => seatRow p s n (mS p)
abbrev seatsV (l : List (List SeatT)) : IV := IV.view 1 (encN 4 cSeat) l
def cHall (p : Plan) (s : StT) : List IV := [IV.ptr (cP p),intsV s.store,bbV s.rd,bbV s.wr,iiV s.vals,seatsV (seatsL p s (nT p))]
abbrev hallV (p : Plan) (s : StT) : IV := IV.ptr (cHall p s)
theorem seatRow_next (p : Plan) (s : StT) (n j : Nat) : seatRow p s n (j + 1) = seatRow p s n j ++ [seatOf p s n j] := by unfold seatRow;rw [List.range_succ,List.map_append];rfl
theorem seatsL_next (p : Plan) (s : StT) (j : Nat) : seatsL p s (j + 1) = seatsL p s j ++ [seatRow p s j (mS p)] := by unfold seatsL;rw [List.range_succ,List.map_append];rfl
theorem seatRow_at {p : Plan} {s : StT} {n j k : Nat} (h : k < j) : (seatRow p s n j)[k]? = some (seatOf p s n k) := by unfold seatRow;rw [List.getElem?_map,List.getElem?_range h];rfl
theorem seatsL_at {p : Plan} {s : StT} {n j : Nat} (h : n < j) : (seatsL p s j)[n]? = some (seatRow p s n (mS p)) := by unfold seatsL;rw [List.getElem?_map,List.getElem?_range h];rfl
structure Shp (p : Plan) (s : StT) : Prop where
 plan : checkPlan p = 0
 shape : shapeB p s = true
theorem Shp.rd {p : Plan} {s : StT} (h : Shp p s) {n : Nat} (hn : n < nT p) : s.rd[n]? = some (s.rd.getD n []) := getD_of_lt [] (by rw [(shape_iff.1 h.shape).2.1];exact hn)
theorem Shp.wr {p : Plan} {s : StT} (h : Shp p s) {n : Nat} (hn : n < nT p) : s.wr[n]? = some (s.wr.getD n []) := getD_of_lt [] (by rw [(shape_iff.1 h.shape).2.2.1];exact hn)
theorem Shp.vals {p : Plan} {s : StT} (h : Shp p s) {n : Nat} (hn : n < nT p) : s.vals[n]? = some (s.vals.getD n []) := getD_of_lt [] (by rw [(shape_iff.1 h.shape).2.2.2.1];exact hn)
theorem Shp.rdk {p : Plan} {s : StT} (h : Shp p s) {n k : Nat} (hn : n < nT p) (hk : k < mS p) : (s.rd.getD n [])[k]? = some (bAt s.rd n k) := getD_of_lt false (by rw [((shape_iff.1 h.shape).2.2.2.2 n hn).1];exact hk)
theorem Shp.wrk {p : Plan} {s : StT} (h : Shp p s) {n k : Nat} (hn : n < nT p) (hk : k < mS p) : (s.wr.getD n [])[k]? = some (bAt s.wr n k) := getD_of_lt false (by rw [((shape_iff.1 h.shape).2.2.2.2 n hn).2.1];exact hk)
theorem prt_at {p : Plan} {n k : Nat} (hk : k < mS p) : (partL (mS p) (txN p n))[k]? = some (prt p n k) := getD_of_lt false (by unfold partL;rw [marks_length];exact hk)
theorem act_at {p : Plan} {n k : Nat} (hk : k < mS p) : (actL (mS p) (txN p n))[k]? = some (act p n k) := getD_of_lt false (by unfold actL;rw [marks_length];exact hk)
theorem of_fn (p : Plan) (s : StT) (hS : Shp p s) (hb : TxsB p.txns) : Fn CC 95 [IV.ptr (cP p),stV s] (hallV p s) := by
 obtain ⟨hm,hm1,hm4,hn8,hall⟩ := plan_m hS.plan
 refine Fn.of_wp _ Tryz.func95 rfl (by kernel_rfl) Tryz.ntmps95 rfl ?_
 intro F hD hG
 (refine zR ?_;(iterate 2 refine sA ?_);refine zN ?_)
 (refine zR ?_;(iterate 3 refine sA ?_);refine ALK.a (opa_box (eB rfl) Cs.a) rfl ?_;refine sA ?_;refine zN ?_)
 (refine zR ?_;(iterate 2 refine sA ?_);refine fd 1 ?_;(iterate 3 refine sA ?_);refine zN ?_)
 refine WP.shift (Shift.row0In 0 5 173 1 (encN 4 cSeat) (fun _ => rfl) rfl rfl rfl) ?_
 refine zB ?_
 refine WP.loop (fun n : Nat => ⟨[(20,.im (IV.int n)),(18,.im (txsV p.txns)),(19,.im (IV.int p.txns.length)),(0,.im (IV.ptr (cP p))),(3,.im (IV.ptr (cSt s))),(5,.off 0 0)],[(0,.blk 170 [.im (IV.ptr (cP p)),.im (intsV s.store),.im (bbV s.rd),.im (bbV s.wr),.im (iiV s.vals),.row 1 n]),(1,.row 173 1 (encN 4 cSeat) (seatsL p s n))],2⟩) (fun n => n ≤ nT p) (fun n => nT p - n) 0 (Nat.zero_le _) (Shift.sub [(0,0),(1,1)] rfl SubE.a SubH.a) ?_
 rintro n hn
 (refine zR ?_;refine sA ?_;refine zN ?_)
 refine zC (fun h => ?_) (fun h => ?_)
 ·refine zS ?_
  have hlt : n < nT p := by simpa [nT] using h
  obtain ⟨ht,hok⟩ := hall n hlt
  have hbt : TxnB (txN p n) := hb _ (List.mem_of_getElem? ht)
  have hr1 := hS.rd hlt
  have hw1 := hS.wr hlt
  refine zB ?_
  (refine zR ?_;(iterate 2 refine sA ?_);refine zN ?_)
  (refine zR ?_;(iterate 4 refine sA ?_);refine ALK.n (opn_call (place_Parts_fn p (mS p) n (txN p n) hm hm1 hm4 (by omega) ht hbt hok) (Evs.cons Ev.a (Evs.cons Ev.a Evs.nil))) rfl ?_;(iterate 5 refine sA ?_);refine zN ?_)
  (refine zR ?_;refine sA ?_;refine zN ?_)
  refine WP.shift (Shift.row0 9 176 4 cSeat (fun _ => rfl) rfl) ?_
  (refine zR ?_;(iterate 2 refine sA ?_);refine fd 0 ?_;(iterate 2 refine sA ?_);refine zN ?_)
  refine zB ?_
  refine WP.loop (fun k : Nat => ⟨[(35,.im (IV.int k)),(34,.im (IV.int p.shards)),(6,.im (IV.int n)),(7,.im (boolsV (partL (mS p) (txN p n)))),(8,.im (boolsV (actL (mS p) (txN p n)))),(9,.row 2 k),(20,.im (IV.int n)),(18,.im (txsV p.txns)),(19,.im (IV.int p.txns.length)),(0,.im (IV.ptr (cP p))),(3,.im (IV.ptr (cSt s))),(5,.off 0 0)],[(0,.blk 170 [.im (IV.ptr (cP p)),.im (intsV s.store),.im (bbV s.rd),.im (bbV s.wr),.im (iiV s.vals),.row 1 n]),(1,.row 173 1 (encN 4 cSeat) (seatsL p s n)),(2,.row 176 4 cSeat (seatRow p s n k))],3⟩) (fun k => k ≤ mS p) (fun k => mS p - k) 0 (Nat.zero_le _) (Shift.sub [(0,0),(1,1),(2,2)] rfl SubE.a SubH.a) ?_
  rintro k hk
  (refine zR ?_;refine sA ?_;refine zN ?_)
  refine zC (fun h => ?_) (fun h => ?_)
  ·refine zS ?_
   have hkm : k < mS p := by simp at h;omega
   have e1 := prt_at (n := n) hkm
   have e2 := act_at (n := n) hkm
   have e3 := hS.rdk hlt hkm
   have e4 := hS.wrk hlt hkm
   have hl1 : (seatRow p s n k).length = k := by simp [seatRow]
   refine zB ?_
   (refine zR ?_;(iterate 2 refine sA ?_);refine zN ?_)
   (refine zW ?_;(iterate 9 refine sA ?_);refine fd 1 ?_;(iterate 7 refine sA ?_);refine fd 2 ?_;(iterate 8 refine sA ?_);refine ALK.n (opn_slit rfl rfl rfl rfl rfl rfl (Pc rfl (eB rfl) Cs.a rfl rfl Parts.nil) rfl) rfl ?_;refine ALK.e (ope_append (b := 4) [seatOf p s n k] rfl rfl rfl rfl rfl (eB rfl) (eB rfl) rfl rfl (by rw [hl1];simp;omega) rfl) rfl rfl ?_;refine sA ?_;refine zD ?_)
   (refine zR ?_;(iterate 2 refine sA ?_);refine zN ?_)
   show ∃ _,_ ∧ _ ∧ _
   have hx := seatRow_next p s n k
   exact ⟨k + 1,by omega,by omega,Shift.sub [(0,0),(1,1),(2,3)] rfl (SubE.cons rfl SLe.a (SubE.cons rfl SLe.a (SubE.cons rfl SLe.a (SubE.cons rfl SLe.a (SubE.cons rfl SLe.a (SubE.cons rfl (SLe.row rfl (by rw [hl1];rfl)) SubE.a)))))) (SubH.cons rfl rfl (ObLe.blk SLes.a) (SubH.cons rfl rfl (ObLe.row rfl) (SubH.cons rfl rfl (ObLe.row hx.symm) SubH.nil)))⟩
  ·refine zE ?_
   have hkm : k = mS p := by simp at h;omega
   subst hkm
   refine WP.shift (Shift.frzRow 9 rfl rfl) ?_
   have hl2 : (seatsL p s n).length = n := by simp [seatsL]
   have hx := seatsL_next p s n
   (refine zR ?_;(iterate 3 refine sA ?_);refine fd 5 ?_;(iterate 2 refine sA ?_);refine ALK.n (opn_slit rfl rfl rfl rfl rfl rfl (Pc rfl (eB rfl) Cs.a rfl rfl Parts.nil) rfl) rfl ?_;refine ALK.e (ope_append (b := 24) [seatRow p s n (mS p)] rfl rfl rfl rfl rfl (eB rfl) (eB rfl) rfl rfl (by rw [hl2];simp;omega) rfl) rfl rfl ?_;refine sA ?_;refine fd 5 ?_;refine sA ?_;refine zN ?_)
   (refine zR ?_;(iterate 2 refine sA ?_);refine zN ?_)
   show ∃ _,_ ∧ _ ∧ _
   exact ⟨n + 1,by omega,by omega,Shift.sub [(0,0),(1,3)] rfl SubE.a (SubH.cons rfl rfl (ObLe.blk (SLes.cons SLe.a (SLes.cons SLe.a (SLes.cons SLe.a (SLes.cons SLe.a (SLes.cons SLe.a (SLes.cons (SLe.row rfl (by rw [hl2];rfl)) SLes.nil))))))) (SubH.cons rfl rfl (ObLe.row hx.symm) SubH.nil))⟩
 ·refine zE ?_
  have hn2 : n = nT p := by
   have : nT p = p.txns.length := rfl
   simp at h;omega
  subst hn2
  refine WP.shift (Shift.frzIn 0 5 rfl rfl rfl rfl) ?_
  refine WP.shift (Shift.frzBlk 5 rfl rfl rfl) ?_
  (refine zR ?_;(iterate 2 refine sA ?_);refine zN ?_)
  exact zT Tryz.results95
theorem IndexSeat_fn (xs : List SeatT) (f : FuncId) (caps : List IV) (p : SeatT → Bool) (hf : ∀ x ∈ xs,Fn CC f ([IV.agg (cSeat x)] ++ caps) (IV.bool (p x))) : Fn CC 118 [IV.view 4 cSeat xs,IV.fn f caps] (IV.int (idxP p xs)) := by
 refine Fn.of_wp _ Tryz.func118 rfl (by kernel_rfl) Tryz.ntmps118 rfl ?_
 intro F hD hG
 refine WP.len 0 rfl (fun hl1 => ?_)
 (refine zR ?_;refine sA ?_;refine zN ?_)
 (refine zR ?_;(iterate 3 refine sA ?_);refine zN ?_)
 refine zB ?_
 refine WP.loop (fun k : Nat => ⟨[(8,.im (IV.int k)),(7,.im (IV.int xs.length)),(0,.im (IV.view 4 cSeat xs)),(1,.im (IV.fn f caps))],[],0⟩) (fun k => k ≤ xs.length ∧ ∀ y ∈ xs.take k,p y = false) (fun k => xs.length - k) 0 ⟨Nat.zero_le _,by simp⟩ (Shift.sub [] rfl SubE.a SubH.nil) ?_
 rintro k ⟨hk,he⟩
 (refine zR ?_;refine sA ?_;refine zN ?_)
 refine zC (fun h => ?_) (fun h => ?_)
 ·refine zS ?_
  have hlt : k < xs.length := by simpa using h
  obtain ⟨x,hx⟩ := get_at hlt
  refine zB ?_
  (refine zR ?_;(iterate 2 refine sA ?_);refine zN ?_)
  (refine zR ?_;(iterate 5 refine sA ?_);refine ALK.n (opn_callFn (by first | exact Ev.base rfl | exact Ev.cnd rfl (by assumption)) (hf x (List.mem_of_getElem? hx)) (Evs.cons Ev.a Evs.nil)) rfl ?_;refine zN ?_)
  refine zC (fun h => ?_) (fun h => ?_)
  ·(refine zR ?_;(iterate 2 refine sA ?_);refine zN ?_)
   have hr : idxP p xs = k := idxP_at he hx h
   exact zT Tryz.results118
  refine zS ?_
  (refine zR ?_;(iterate 2 refine sA ?_);refine zN ?_)
  show ∃ _,_ ∧ _ ∧ _
  exact ⟨k + 1,⟨by omega,take_next he hx h⟩,by omega,(Shift.sub [] rfl SubE.a SubH.nil)⟩
 ·refine zE ?_
  (refine zR ?_;refine sA ?_;refine zN ?_)
  have hr : idxP p xs = -1 := idxP_none (by rw [List.take_of_length_le (by simp at h;omega)] at he;exact he)
  exact zT Tryz.results118
theorem ContainsSeat_fn (xs : List SeatT) (f : FuncId) (caps : List IV) (p : SeatT → Bool) (hf : ∀ x ∈ xs,Fn CC f ([IV.agg (cSeat x)] ++ caps) (IV.bool (p x))) : Fn CC 96 [IV.view 4 cSeat xs,IV.fn f caps] (IV.bool (xs.any p)) := by
 refine Fn.of_wp _ Tryz.func96 rfl (by kernel_rfl) Tryz.ntmps96 rfl ?_
 intro F hD hG
 (refine zR ?_;refine sA ?_;refine zN ?_)
 (refine zR ?_;(iterate 2 refine sA ?_);refine ALK.n (opn_call (IndexSeat_fn _ _ _ p hf) (Evs.cons Ev.a (Evs.cons Ev.a Evs.nil))) rfl ?_;(iterate 2 refine sA ?_);refine zN ?_)
 have hr : xs.any p = decide (idxP p xs ≥ 0) := (idxP_ge _ _).symm
 exact zT Tryz.results96
def sGone (x : SeatT) : Bool := !x.part || x.wrote || (x.read && !x.active)
def sLack (x : SeatT) : Bool := x.part && !x.read
theorem gone_fn (x : SeatT) : Fn CC 98 [IV.agg (cSeat x)] (IV.bool (sGone x)) := by
 refine Fn.of_wp _ Tryz.func98 rfl (by kernel_rfl) Tryz.ntmps98 rfl ?_
 intro F hD hG
 (refine zR ?_;(iterate 2 refine sA ?_);refine zN ?_)
 (refine zR ?_;refine fd 0 ?_;(iterate 3 refine sA ?_);refine gF 3 ?_;refine gA ?_;(iterate 2 refine sA ?_);refine gF 2 ?_;(iterate 2 refine gA ?_);refine gF 1 ?_;(iterate 2 refine gA ?_);refine ALK.g (fun hb => opn_pick_and (eC rfl hb) rfl (fun hb2 => by first | exact hb2 | (rw [hb,hb2];rfl) | simp_all [gd]) rfl) rfl rfl rfl ?_;(iterate 2 refine sA ?_);refine zN ?_)
 have hr : sGone x = (!x.part || x.wrote || (x.read && !x.active)) := rfl
 exact zT Tryz.results98
theorem all1_fn (x : SeatT) : Fn CC 148 [IV.agg (cSeat x)] (IV.bool (sLack x)) := by
 refine Fn.of_wp _ Tryz.func148 rfl (by kernel_rfl) Tryz.ntmps148 rfl ?_
 intro F hD hG
 (refine zR ?_;(iterate 2 refine sA ?_);refine zN ?_)
 (refine zR ?_;refine fd 0 ?_;(iterate 2 refine sA ?_);refine gF 2 ?_;(iterate 2 refine gA ?_);(iterate 2 refine sA ?_);refine zN ?_)
 have hr : sLack x = (x.part && !x.read) := rfl
 exact zT Tryz.results148
theorem Ended1_fn (x : SeatT) : Fn CC 97 [IV.agg (cSeat x)] (IV.bool (!sGone x)) := by
 refine Fn.of_wp _ Tryz.func97 rfl (by kernel_rfl) Tryz.ntmps97 rfl ?_
 intro F hD hG
 (refine zR ?_;(iterate 2 refine sA ?_);refine zN ?_)
 (refine zR ?_;refine sA ?_;refine ALK.n (opn_call (gone_fn x) (Evs.cons Ev.a Evs.nil)) rfl ?_;(iterate 2 refine sA ?_);refine zN ?_)
 exact zT Tryz.results97
theorem all_row {p : Plan} {s : StT} {n : Nat} : (seatRow p s n (mS p)).any sLack = !allB p s n := by
 unfold seatRow allB
 rw [List.any_map,List.not_all_eq_any_not]
 congr 1
 funext k
 simp [seatOf,sLack,Function.comp]
theorem gone_row {p : Plan} {s : StT} {n k : Nat} : sGone (seatOf p s n k) = goneB p s n k := rfl
theorem all_fn (p : Plan) (s : StT) (n : Nat) (hn : n < nT p) : Fn CC 129 [hallV p s,IV.int n] (IV.bool (allB p s n)) := by
 have hx := seatsL_at (p := p) (s := s) hn
 refine Fn.of_wp _ Tryz.func129 rfl (by kernel_rfl) Tryz.ntmps129 rfl ?_
 intro F hD hG
 (refine zR ?_;refine sA ?_;refine zN ?_)
 (refine zR ?_;(iterate 2 refine sA ?_);refine fd 5 ?_;(iterate 4 refine sA ?_);refine ALK.n (opn_call (ContainsSeat_fn (seatRow p s n (mS p)) _ [] sLack (fun x _ => all1_fn x)) (Evs.cons Ev.a (Evs.cons Ev.a Evs.nil))) rfl ?_;(iterate 2 refine sA ?_);refine zN ?_)
 have hr : allB p s n = !(seatRow p s n (mS p)).any sLack := by rw [all_row];simp
 exact zT Tryz.results129
theorem fineB_at {p : Plan} {s : StT} {n k : Nat} (hn : n < nT p) (hk : k < mS p) (h : fineAt p s n k = false) : fineB p s = false := by
 cases hf : fineB p s with
 | false => rfl
 | true =>
  unfold fineB at hf
  have := List.all_eq_true.1 (List.all_eq_true.1 hf n (List.mem_range.2 hn)) k (List.mem_range.2 hk)
  rw [h] at this;cases this
theorem fine_fn (p : Plan) (s : StT) (hn8 : nT p ≤ 8) (hm4 : mS p ≤ 4) : Fn CC 121 [hallV p s] (IV.bool (fineB p s)) := by
 have hl : (seatsL p s (nT p)).length = nT p := by simp [seatsL]
 refine Fn.of_wp _ Tryz.func121 rfl (by kernel_rfl) Tryz.ntmps121 rfl ?_
 intro F hD hG
 (refine zR ?_;refine sA ?_;refine zN ?_)
 (refine zR ?_;(iterate 2 refine sA ?_);refine fd 5 ?_;(iterate 3 refine sA ?_);refine zN ?_)
 refine zB ?_
 refine WP.loop (fun n : Nat => ⟨[(12,.im (IV.int n)),(10,.im (seatsV (seatsL p s (nT p)))),(11,.im (IV.int (seatsL p s (nT p)).length)),(0,.im (hallV p s))],[],0⟩) (fun n => n ≤ nT p ∧ ∀ i,i < n → ∀ j,j < mS p → fineAt p s i j = true) (fun n => nT p - n) 0 ⟨Nat.zero_le _,fun i hi => by omega⟩ (Shift.sub [] rfl SubE.a SubH.nil) ?_
 rintro n ⟨hn,hf⟩
 (refine zR ?_;refine sA ?_;refine zN ?_)
 refine zC (fun h => ?_) (fun h => ?_)
 ·refine zS ?_
  have hlt : n < nT p := by simp [hl] at h;omega
  have hx := seatsL_at (p := p) (s := s) hlt
  have hrl : (seatRow p s n (mS p)).length = mS p := by simp [seatRow]
  refine zB ?_
  (refine zR ?_;(iterate 5 refine sA ?_);refine zN ?_)
  (refine zR ?_;(iterate 3 refine sA ?_);refine zN ?_)
  refine zB ?_
  refine WP.loop (fun k : Nat => ⟨[(19,.im (IV.int k)),(17,.im (IV.view 4 cSeat (seatRow p s n (mS p)))),(18,.im (IV.int (seatRow p s n (mS p)).length)),(3,.im (IV.int n)),(12,.im (IV.int n)),(10,.im (seatsV (seatsL p s (nT p)))),(11,.im (IV.int (seatsL p s (nT p)).length)),(0,.im (hallV p s))],[],0⟩) (fun k => k ≤ mS p ∧ ∀ j,j < k → fineAt p s n j = true) (fun k => mS p - k) 0 ⟨Nat.zero_le _,fun i hi => by omega⟩ (Shift.sub [] rfl SubE.a SubH.nil) ?_
  rintro k ⟨hk,hg⟩
  (refine zR ?_;refine sA ?_;refine zN ?_)
  refine zC (fun h => ?_) (fun h => ?_)
  ·refine zS ?_
   have hkm : k < mS p := by simp [hrl] at h;omega
   have hy := seatRow_at (p := p) (s := s) (n := n) hkm
   refine zB ?_
   (refine zR ?_;(iterate 4 refine sA ?_);refine zN ?_)
   refine WP.shift (Shift.frzBlk 6 rfl rfl rfl) ?_
   (refine zR ?_;refine fd 2 ?_;(iterate 2 refine sA ?_);refine gF 0 ?_;(iterate 2 refine gA ?_);(iterate 2 refine sA ?_);refine gF 3 ?_;(iterate 2 refine gA ?_);refine gF 1 ?_;(iterate 5 refine gA ?_);refine ALK.g2 (fun hb => opn_call (all_fn p s n hlt) (Evs.cons Ev.a (Evs.cons Ev.a Evs.nil))) rfl rfl rfl ?_;refine gA ?_;refine ALK.g2 (fun hb => opn_pick_or (eC rfl hb) rfl rfl (fun hb2 => by first | (rw [hb2];rfl) | (rw [hb,hb2];rfl) | simp_all [gd])) rfl rfl rfl ?_;refine ALK.g (fun hb => opn_pick_and (eC rfl hb) rfl (fun hb2 => by first | exact hb2 | (rw [hb,hb2];rfl) | simp_all [gd]) rfl) rfl rfl rfl ?_;refine sA ?_;refine zN ?_)
   have hq : fineAt p s n k = !((bAt s.rd n k && !prt p n k) || (bAt s.wr n k && (!act p n k || !allB p s n))) := rfl
   refine zC (fun h => ?_) (fun h => ?_)
   ·(refine zR ?_;refine sA ?_;refine zN ?_)
    have hr : fineB p s = false := fineB_at hlt hkm (by rw [hq];simp only [seatOf] at h;generalize bAt s.rd n k = a at h ⊢;generalize prt p n k = b at h ⊢;generalize bAt s.wr n k = c at h ⊢;generalize act p n k = d at h ⊢;generalize allB p s n = e at h ⊢;revert h;cases a <;> cases b <;> cases c <;> cases d <;> cases e <;> simp)
    exact zT Tryz.results121
   refine zS ?_
   (refine zR ?_;(iterate 2 refine sA ?_);refine zN ?_)
   show ∃ _,_ ∧ _ ∧ _
   refine ⟨k + 1,⟨by omega,fun j hj => ?_⟩,by omega,(Shift.sub [] rfl SubE.a SubH.nil)⟩
   by_cases e : j = k
   ·subst e;rw [hq];simp only [seatOf] at h;generalize bAt s.rd n j = a at h ⊢;generalize prt p n j = b at h ⊢;generalize bAt s.wr n j = c at h ⊢;generalize act p n j = d at h ⊢;generalize allB p s n = e at h ⊢;revert h;cases a <;> cases b <;> cases c <;> cases d <;> cases e <;> simp
   ·exact hg j (by omega)
  ·refine zE ?_
   have hkm : k = mS p := by simp [hrl] at h;omega
   subst hkm
   (refine zR ?_;(iterate 2 refine sA ?_);refine zN ?_)
   show ∃ _,_ ∧ _ ∧ _
   refine ⟨n + 1,⟨by omega,fun i hi => ?_⟩,by omega,(Shift.sub [] rfl SubE.a SubH.nil)⟩
   by_cases e : i = n
   ·subst e;exact hg
   ·exact hf i (by omega)
 ·refine zE ?_
  have hn2 : n = nT p := by simp [hl] at h;omega
  subst hn2
  (refine zR ?_;refine sA ?_;refine zN ?_)
  have hr : fineB p s = true := by
   unfold fineB
   simp only [List.all_eq_true,List.mem_range]
   exact hf
  exact zT Tryz.results121
theorem Ended_fn (p : Plan) (s : StT) (hS : Shp p s) (hb : TxsB p.txns) : Fn CC 69 [planV p,stV s] (IV.bool (overB p s)) := by
 obtain ⟨hm,hm1,hm4,hn8,hall⟩ := plan_m hS.plan
 have hl : (seatsL p s (nT p)).length = nT p := by simp [seatsL]
 refine Fn.of_wp _ Tryz.func69 rfl (by kernel_rfl) Tryz.ntmps69 rfl ?_
 intro F hD hG
 (refine zR ?_;(iterate 3 refine sA ?_);refine zN ?_)
 (refine zR ?_;refine sA ?_;refine ALK.n (opn_call (of_fn p s hS hb) (Evs.cons Ev.a (Evs.cons Ev.a Evs.nil))) rfl ?_;refine sA ?_;refine fd 5 ?_;(iterate 3 refine sA ?_);refine zN ?_)
 refine zB ?_
 refine WP.loop (fun n : Nat => ⟨[(13,.im (IV.int n)),(11,.im (seatsV (seatsL p s (nT p)))),(12,.im (IV.int (seatsL p s (nT p)).length))],[],0⟩) (fun n => n ≤ nT p ∧ ∀ i,i < n → ∀ j,j < mS p → goneB p s i j = true) (fun n => nT p - n) 0 ⟨Nat.zero_le _,fun i hi => by omega⟩ (Shift.sub [] rfl SubE.a SubH.nil) ?_
 rintro n ⟨hn,hf⟩
 (refine zR ?_;refine sA ?_;refine zN ?_)
 refine zC (fun h => ?_) (fun h => ?_)
 ·refine zS ?_
  have hlt : n < nT p := by simp [hl] at h;omega
  have hx := seatsL_at (p := p) (s := s) hlt
  refine zB ?_
  (refine zR ?_;(iterate 3 refine sA ?_);refine zN ?_)
  (refine zR ?_;refine sA ?_;refine ALK.n (opn_call (ContainsSeat_fn (seatRow p s n (mS p)) _ [] (fun x => !sGone x) (fun x _ => Ended1_fn x)) (Evs.cons Ev.a (Evs.cons Ev.a Evs.nil))) rfl ?_;refine zN ?_)
  have hq : (seatRow p s n (mS p)).any (fun x => !sGone x) = !(List.range (mS p)).all fun k => goneB p s n k := by
   unfold seatRow
   rw [List.any_map,List.not_all_eq_any_not]
   rfl
  refine zC (fun h => ?_) (fun h => ?_)
  ·(refine zR ?_;refine sA ?_;refine zN ?_)
   have hr : overB p s = false := by
    rw [hq] at h
    cases ho : overB p s with
    | false => rfl
    | true =>
     unfold overB at ho
     rw [List.all_eq_true.1 ho n (List.mem_range.2 hlt)] at h
     cases h
   exact zT Tryz.results69
  refine zS ?_
  (refine zR ?_;(iterate 2 refine sA ?_);refine zN ?_)
  show ∃ _,_ ∧ _ ∧ _
  refine ⟨n + 1,⟨by omega,fun i hi => ?_⟩,by omega,(Shift.sub [] rfl SubE.a SubH.nil)⟩
  by_cases e : i = n
  ·subst e
   rw [hq,Bool.not_eq_false',List.all_eq_true] at h
   exact fun j hj => h j (List.mem_range.2 hj)
  ·exact hf i (by omega)
 ·refine zE ?_
  have hn2 : n = nT p := by simp [hl] at h;omega
  subst hn2
  (refine zR ?_;refine sA ?_;refine zN ?_)
  have hr : overB p s = true := over_iff.2 fun i j hi hj => hf i hi j hj
  exact zT Tryz.results69
theorem rowsOk_iff {p : Plan} {s : StT} {n : Nat} : rowsOk p s n = true ↔ (s.rd.getD n []).length = mS p ∧ (s.wr.getD n []).length = mS p ∧ (s.vals.getD n []).length = (txN p n).reads.length := by
 unfold rowsOk
 simp only [Bool.and_eq_true,decide_eq_true_eq,and_assoc]
theorem checkState_no {p : Plan} {s : StT} (hp : checkPlan p = 0) (h : (shapeB p s && fineB p s) = false) : checkState p s = 1 := by unfold checkState;rw [if_pos hp,h];rfl
theorem shape_no {p : Plan} {s : StT} {n : Nat} (hn : n < nT p) (h : rowsOk p s n = false) : shapeB p s = false := by
 cases hs : shapeB p s with
 | false => rfl
 | true =>
  have := (shape_iff.1 hs).2.2.2.2 n hn
  rw [← rowsOk_iff,h] at this;cases this
theorem steps_Check_fn (p : Plan) (s : StT) (hb : TxsB p.txns) : Fn CC 102 [planV p,stV s] (IV.int (checkState p s)) := by
 refine Fn.of_wp _ Tryz.func102 rfl (by kernel_rfl) Tryz.ntmps102 rfl ?_
 intro F hD hG
 (refine zR ?_;(iterate 3 refine sA ?_);refine zN ?_)
 (refine zR ?_;refine sA ?_;refine ALK.n (opn_call (place_Check_fn _ (by assumption)) (Evs.cons Ev.a Evs.nil)) rfl ?_;refine sA ?_;refine zN ?_)
 (refine zR ?_;(iterate 2 refine sA ?_);refine zN ?_)
 refine zC (fun h => ?_) (fun h => ?_)
 ·(refine zR ?_;(iterate 2 refine sA ?_);refine zN ?_)
  have hr : checkState p s = checkPlan p := by unfold checkState;rw [if_neg (by simpa using h)]
  rw [hr]
  exact zT Tryz.results102
 refine zS ?_
 have hp : checkPlan p = 0 := by simpa using h
 clear h
 obtain ⟨hm,hm1,hm4,hn8,hall⟩ := plan_m hp
 have hnT : nT p = p.txns.length := rfl
 (refine zR ?_;refine fd 1 ?_;(iterate 3 refine sA ?_);refine zN ?_)
 (refine zR ?_;refine fd 0 ?_;refine sA ?_;refine ALK.n (opn_call (store_Check_fn s.store) (Evs.cons Ev.a Evs.nil)) rfl ?_;(iterate 2 refine sA ?_);refine gF 1 ?_;(iterate 4 refine gA ?_);(iterate 2 refine sA ?_);refine gF 2 ?_;(iterate 4 refine gA ?_);(iterate 2 refine sA ?_);refine gF 3 ?_;(iterate 4 refine gA ?_);refine sA ?_;refine zN ?_)
 refine zC (fun h => ?_) (fun h => ?_)
 ·(refine zR ?_;refine sA ?_;refine zN ?_)
  have hr : checkState p s = 1 := checkState_no hp (by
   cases hs : shapeB p s with
   | false => rfl
   | true =>
    obtain ⟨a,b,c,d,_⟩ := shape_iff.1 hs
    rw [if_pos a] at h
    simp at h;omega)
  rw [hr]
  exact zT Tryz.results102
 refine zS ?_
 have hlens : s.store.length = 8 ∧ s.rd.length = nT p ∧ s.wr.length = nT p ∧ s.vals.length = nT p := by
  by_cases a : s.store.length = 8
  ·rw [if_pos a] at h
   simp at h;omega
  ·rw [if_neg a] at h
   simp at h
 clear h
 obtain ⟨l1,l2,l3,l4⟩ := hlens
 (refine zR ?_;refine fd 1 ?_;(iterate 3 refine sA ?_);refine zN ?_)
 refine zB ?_
 refine WP.loop (fun n : Nat => ⟨[(45,.im (IV.int n)),(43,.im (txsV p.txns)),(44,.im (IV.int p.txns.length)),(2,.im (IV.ptr (cP p))),(3,.im (IV.ptr (cSt s)))],[],0⟩) (fun n => n ≤ nT p ∧ ∀ i,i < n → rowsOk p s i = true) (fun n => nT p - n) 0 ⟨Nat.zero_le _,fun i hi => by omega⟩ (Shift.sub [] rfl SubE.a SubH.nil) ?_
 rintro n ⟨hn,hf⟩
 (refine zR ?_;refine sA ?_;refine zN ?_)
 refine zC (fun h => ?_) (fun h => ?_)
 ·refine zS ?_
  have hlt : n < nT p := by simp at h;omega
  obtain ⟨ht,hok⟩ := hall n hlt
  have e1 : s.rd[n]? = some (s.rd.getD n []) := getD_of_lt [] (by omega)
  have e2 : s.wr[n]? = some (s.wr.getD n []) := getD_of_lt [] (by omega)
  have e3 : s.vals[n]? = some (s.vals.getD n []) := getD_of_lt [] (by omega)
  refine zB ?_
  (refine zR ?_;(iterate 6 refine sA ?_);refine zN ?_)
  refine WP.shift (Shift.frzBlk 8 rfl rfl rfl) ?_
  (refine zW ?_;refine fd 1 ?_;(iterate 5 refine sA ?_);refine fd 0 ?_;(iterate 3 refine sA ?_);refine gF 2 ?_;(iterate 5 refine gA ?_);refine gF 0 ?_;(iterate 2 refine gA ?_);(iterate 2 refine sA ?_);refine gF 3 ?_;(iterate 5 refine gA ?_);refine gF 0 ?_;(iterate 3 refine gA ?_);refine sA ?_;refine zD ?_)
  have hq := rowsOk_iff (p := p) (s := s) (n := n)
  refine zC (fun h => ?_) (fun h => ?_)
  ·(refine zR ?_;refine sA ?_;refine zN ?_)
   have hr : checkState p s = 1 := checkState_no hp (by
    have : shapeB p s = false := shape_no hlt (by
     cases hs : rowsOk p s n with
     | false => rfl
     | true =>
      obtain ⟨a,b,c⟩ := hq.1 hs
      rw [a,b,c] at h
      simp at h;omega)
    rw [this];rfl)
   rw [hr]
   exact zT Tryz.results102
  refine zS ?_
  (refine zR ?_;(iterate 2 refine sA ?_);refine zN ?_)
  show ∃ _,_ ∧ _ ∧ _
  refine ⟨n + 1,⟨by omega,fun i hi => ?_⟩,by omega,(Shift.sub [] rfl SubE.a SubH.nil)⟩
  by_cases e : i = n
  ·subst e
   refine hq.2 ?_
   generalize (s.rd.getD i []).length = a at h ⊢
   generalize (s.wr.getD i []).length = b at h ⊢
   generalize (s.vals.getD i []).length = c at h ⊢
   simp at h
   omega
  ·exact hf i (by omega)
 ·refine zE ?_
  have hn2 : n = nT p := by simp at h;omega
  subst hn2
  have hs : shapeB p s = true := shape_iff.2 ⟨l1,l2,l3,l4,fun i hi => rowsOk_iff.1 (hf i hi)⟩
  (refine zR ?_;refine sA ?_;refine ALK.n (opn_call (of_fn p s ⟨hp,hs⟩ hb) (Evs.cons Ev.a (Evs.cons Ev.a Evs.nil))) rfl ?_;refine ALK.n (opn_call (fine_fn p s hn8 hm4) (Evs.cons Ev.a Evs.nil)) rfl ?_;refine sA ?_;refine zN ?_)
  refine zC (fun h => ?_) (fun h => ?_)
  ·(refine zR ?_;refine sA ?_;refine zN ?_)
   have hr : checkState p s = 1 := checkState_no hp (by rw [hs];simpa using h)
   rw [hr]
   exact zT Tryz.results102
  refine zS ?_
  (refine zR ?_;refine sA ?_;refine zN ?_)
  have hr : checkState p s = 0 := by
   unfold checkState
   rw [if_pos hp,if_pos (by rw [hs];simpa using h)]
  rw [hr]
  exact zT Tryz.results102
def overE (p : Plan) (s : StT) : Bool := decide (checkState p s = 0) && overB p s
theorem Over_fn (p : Plan) (s : StT) (hb : TxsB p.txns) : Fn CC 74 [planV p,stV s] (IV.tup [IV.bool (overE p s),IV.int (checkState p s)]) := by
 refine Fn.of_wp _ Tryz.func74 rfl (by kernel_rfl) Tryz.ntmps74 rfl ?_
 intro F hD hG
 (refine zR ?_;(iterate 4 refine sA ?_);refine zN ?_)
 (refine zR ?_;(iterate 2 refine sA ?_);refine ALK.n (opn_call (steps_Check_fn p s hb) (Evs.cons Ev.a (Evs.cons Ev.a Evs.nil))) rfl ?_;refine sA ?_;refine zN ?_)
 (refine zR ?_;(iterate 2 refine sA ?_);refine zN ?_)
 refine zC (fun h => ?_) (fun h => ?_)
 ·(refine zR ?_;(iterate 3 refine sA ?_);refine zN ?_)
  have hr : overE p s = false := by unfold overE;rw [decide_eq_false (by simpa using h)];rfl
  rw [hr]
  exact zT Tryz.results74
 refine zS ?_
 have h0 : checkState p s = 0 := by simpa using h
 have v := valid_iff.1 h0
 have hS : Shp p s := ⟨v.plan,shape_iff.2 ⟨v.store,v.rdl,v.wrl,v.vall,fun n hn => ⟨v.rdr n hn,v.wrr n hn,v.valr n hn⟩⟩⟩
 have hr : overE p s = overB p s := by unfold overE;rw [decide_eq_true h0];rfl
 rw [hr,h0]
 (refine zR ?_;(iterate 2 refine sA ?_);refine ALK.n (opn_call (Ended_fn p s hS hb) (Evs.cons Ev.a (Evs.cons Ev.a Evs.nil))) rfl ?_;(iterate 2 refine sA ?_);refine zN ?_)
 exact zT Tryz.results74
end Go.Proofs.YtjgmbgfcffnanabGreatDoor
