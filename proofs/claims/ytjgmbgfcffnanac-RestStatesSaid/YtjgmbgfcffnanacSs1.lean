/- Package steps: the hall of a plan and a state. -/
import Derived.Test.YtjgmbgfcffnanacNs
import Derived.Test.YtjgmbgfcffnanacSp
namespace Go.Proofs.Ytjgmbgfcffnanac
open Go.RowKit

abbrev bbV (l : List (List Bool)) : IV := IV.view 1 (encN 1 cB) l
abbrev iiV (l : List (List Int)) : IV := IV.view 1 (encN 1 cI) l
def cSt (s : StT) : List IV := [intsV s.store, bbV s.rd, bbV s.wr, iiV s.vals]
abbrev stV (s : StT) : IV := IV.agg (cSt s)
structure SeatT where
  part : Bool
  active : Bool
  read : Bool
  wrote : Bool
def cSeat (x : SeatT) : List IV := [IV.bool x.part, IV.bool x.active, IV.bool x.read, IV.bool x.wrote]
def seatOf (p : Plan) (s : StT) (n k : Nat) : SeatT := ⟨prt p n k, act p n k, bAt s.rd n k, bAt s.wr n k⟩
def seatRow (p : Plan) (s : StT) (n j : Nat) : List SeatT := (List.range j).map (seatOf p s n)
def seatsL (p : Plan) (s : StT) (j : Nat) : List (List SeatT) := (List.range j).map fun n => seatRow p s n (mS p)
abbrev seatsV (l : List (List SeatT)) : IV := IV.view 1 (encN 4 cSeat) l
def cHall (p : Plan) (s : StT) : List IV := [IV.ptr (cP p), intsV s.store, bbV s.rd, bbV s.wr, iiV s.vals, seatsV (seatsL p s (nT p))]
abbrev hallV (p : Plan) (s : StT) : IV := IV.ptr (cHall p s)
theorem seatRow_next (p : Plan) (s : StT) (n j : Nat) : seatRow p s n (j + 1) = seatRow p s n j ++ [seatOf p s n j] := by unfold seatRow; rw [List.range_succ, List.map_append]; rfl
theorem seatsL_next (p : Plan) (s : StT) (j : Nat) : seatsL p s (j + 1) = seatsL p s j ++ [seatRow p s j (mS p)] := by unfold seatsL; rw [List.range_succ, List.map_append]; rfl
theorem seatRow_at {p : Plan} {s : StT} {n j k : Nat} (h : k < j) : (seatRow p s n j)[k]? = some (seatOf p s n k) := by unfold seatRow; rw [List.getElem?_map, List.getElem?_range h]; rfl
theorem seatsL_at {p : Plan} {s : StT} {n j : Nat} (h : n < j) : (seatsL p s j)[n]? = some (seatRow p s n (mS p)) := by unfold seatsL; rw [List.getElem?_map, List.getElem?_range h]; rfl
/- a right plan, and a state of its form -/
structure Shp (p : Plan) (s : StT) : Prop where
  plan : checkPlan p = 0
  shape : shapeB p s = true
theorem Shp.rd {p : Plan} {s : StT} (h : Shp p s) {n : Nat} (hn : n < nT p) : s.rd[n]? = some (s.rd.getD n []) := getD_of_lt [] (by rw [(shape_iff.1 h.shape).2.1]; exact hn)
theorem Shp.wr {p : Plan} {s : StT} (h : Shp p s) {n : Nat} (hn : n < nT p) : s.wr[n]? = some (s.wr.getD n []) := getD_of_lt [] (by rw [(shape_iff.1 h.shape).2.2.1]; exact hn)
theorem Shp.vals {p : Plan} {s : StT} (h : Shp p s) {n : Nat} (hn : n < nT p) : s.vals[n]? = some (s.vals.getD n []) := getD_of_lt [] (by rw [(shape_iff.1 h.shape).2.2.2.1]; exact hn)
theorem Shp.rdk {p : Plan} {s : StT} (h : Shp p s) {n k : Nat} (hn : n < nT p) (hk : k < mS p) : (s.rd.getD n [])[k]? = some (bAt s.rd n k) := getD_of_lt false (by rw [((shape_iff.1 h.shape).2.2.2.2 n hn).1]; exact hk)
theorem Shp.wrk {p : Plan} {s : StT} (h : Shp p s) {n k : Nat} (hn : n < nT p) (hk : k < mS p) : (s.wr.getD n [])[k]? = some (bAt s.wr n k) := getD_of_lt false (by rw [((shape_iff.1 h.shape).2.2.2.2 n hn).2.1]; exact hk)
theorem prt_at {p : Plan} {n k : Nat} (hk : k < mS p) : (partL (mS p) (txN p n))[k]? = some (prt p n k) := getD_of_lt false (by unfold partL; rw [marks_length]; exact hk)
theorem act_at {p : Plan} {n k : Nat} (hk : k < mS p) : (actL (mS p) (txN p n))[k]? = some (act p n k) := getD_of_lt false (by unfold actL; rw [marks_length]; exact hk)

set_option maxRecDepth 100000 in
set_option maxHeartbeats 1000000 in
theorem of_fn (p : Plan) (s : StT) (hS : Shp p s) (hb : TxsB p.txns) : Fn (Cfg.mk Try.prog (ttAt ttl) ttl_ok.ok mixd) 60 [IV.ptr (cP p), stV s] (hallV p s) := by
  obtain ⟨hm, hm1, hm4, hn8, hall⟩ := plan_m hS.plan
  refine Fn.of_wp _ Try.func60 rfl (by kernel_rfl) Try.ntmps60 rfl ?_
  intro F hD hG
  ((repeat apply WP.seq); apply WP.lreg; refine ALK.n (opn_box (eB rfl) Cs.a rfl) rfl ?_; refine nA rfl rfl ?_; refine ALK.nil ?_; try show WP _ _ _ _ _ _)
  ((repeat apply WP.seq); apply WP.lreg; refine nM rfl rfl ?_; (first | refine ALK.n (opn_load rfl (eB rfl) rfl) rfl ?_ | refine ALK.r OpR.ld rfl ?_); (first | refine ALK.n (opn_build rfl rfl rfl rfl (Pc rfl (eB rfl) Cs.a rfl rfl (Pc rfl (eB rfl) Cs.a rfl rfl Parts.nil))) rfl ?_ | refine ALK.n (opn_buildA rfl rfl rfl rfl rfl (Pc rfl (eB rfl) Cs.a rfl rfl (Pc rfl (eB rfl) Cs.a rfl rfl Parts.nil))) rfl ?_); refine ALK.a (opa_box (eB rfl) Cs.a) rfl ?_; refine nA rfl rfl ?_; refine ALK.nil ?_; try show WP _ _ _ _ _ _)
  ((repeat apply WP.seq); apply WP.lreg; refine nM rfl rfl ?_; (first | refine ALK.n (opn_nilPtr (eB rfl)) rfl ?_ | refine ALK.n (opn_nilOff (eB rfl)) rfl ?_); (first | refine ALK.n (opn_field (o := 1) rfl (eB rfl)) rfl ?_ | refine ALK.n (opn_fieldOff (o := 1) rfl (eB rfl)) rfl ?_); (first | refine ALK.n (opn_load rfl (eB rfl) rfl) rfl ?_ | refine ALK.r OpR.ld rfl ?_); refine ALK.n OpN.ln rfl ?_; refine nM rfl rfl ?_; refine ALK.nil ?_; try show WP _ _ _ _ _ _)
  refine WP.shift (Shift.row0In 0 5 114 1 (encN 4 cSeat) (fun _ => rfl) rfl rfl rfl) ?_
  ((repeat apply WP.seq); apply WP.block)
  refine WP.loop (fun n : Nat => ⟨[(20, .im (IV.int n)), (18, .im (txsV p.txns)), (19, .im (IV.int p.txns.length)), (0, .im (IV.ptr (cP p))), (3, .im (IV.ptr (cSt s))), (5, .off 0 0)], [(0, .blk 117 [.im (IV.ptr (cP p)), .im (intsV s.store), .im (bbV s.rd), .im (bbV s.wr), .im (iiV s.vals), .row 1 n]), (1, .row 114 1 (encN 4 cSeat) (seatsL p s n))], 2⟩) (fun n => n ≤ nT p) (fun n => nT p - n) 0 (Nat.zero_le _) (Shift.sub [(0, 0), (1, 1)] rfl SubE.a SubH.a) ?_
  rintro n hn
  ((repeat apply WP.seq); apply WP.lreg; refine ALK.n OpN.cm rfl ?_; refine ALK.nil ?_; try show WP _ _ _ _ _ _)
  ((repeat apply WP.seq); refine WP.cond rfl (fun h => ?_) (fun h => ?_))
  · (refine WP.skip ?_; show WP _ _ _ _ _ _)
    have hlt : n < nT p := by simpa [nT] using h
    obtain ⟨ht, hok⟩ := hall n hlt
    have hbt : TxnB (txN p n) := hb _ (List.mem_of_getElem? ht)
    have hr1 := hS.rd hlt
    have hw1 := hS.wr hlt
    ((repeat apply WP.seq); apply WP.block)
    ((repeat apply WP.seq); apply WP.lreg; refine nM rfl rfl ?_; refine nA rfl rfl ?_; refine ALK.nil ?_; try show WP _ _ _ _ _ _)
    ((repeat apply WP.seq); apply WP.lreg; refine nM rfl rfl ?_; (first | refine ALK.n (opn_nilPtr (eB rfl)) rfl ?_ | refine ALK.n (opn_nilOff (eB rfl)) rfl ?_); (first | refine ALK.n (opn_load rfl (eB rfl) rfl) rfl ?_ | refine ALK.r OpR.ld rfl ?_); refine nM rfl rfl ?_; refine ALK.n (opn_call (place_Parts_fn p (mS p) n (txN p n) hm hm1 hm4 (by omega) ht hbt hok) (Evs.cons Ev.a (Evs.cons Ev.a Evs.nil))) rfl ?_; refine nM rfl rfl ?_; refine nX rfl rfl rfl ?_; refine nX rfl rfl rfl ?_; refine nA rfl rfl ?_; refine nA rfl rfl ?_; refine ALK.nil ?_; try show WP _ _ _ _ _ _)
    ((repeat apply WP.seq); apply WP.lreg; refine nA rfl rfl ?_; refine ALK.nil ?_; try show WP _ _ _ _ _ _)
    refine WP.shift (Shift.row0 9 113 4 cSeat (fun _ => rfl) rfl) ?_
    ((repeat apply WP.seq); apply WP.lreg; refine nM rfl rfl ?_; (first | refine ALK.n (opn_nilPtr (eB rfl)) rfl ?_ | refine ALK.n (opn_nilOff (eB rfl)) rfl ?_); (first | refine ALK.n (opn_field (o := 0) rfl (eB rfl)) rfl ?_ | refine ALK.n (opn_fieldOff (o := 0) rfl (eB rfl)) rfl ?_); (first | refine ALK.n (opn_load rfl (eB rfl) rfl) rfl ?_ | refine ALK.r OpR.ld rfl ?_); refine nM rfl rfl ?_; refine ALK.nil ?_; try show WP _ _ _ _ _ _)
    ((repeat apply WP.seq); apply WP.block)
    refine WP.loop (fun k : Nat => ⟨[(35, .im (IV.int k)), (34, .im (IV.int p.shards)), (6, .im (IV.int n)), (7, .im (boolsV (partL (mS p) (txN p n)))), (8, .im (boolsV (actL (mS p) (txN p n)))), (9, .row 2 k), (20, .im (IV.int n)), (18, .im (txsV p.txns)), (19, .im (IV.int p.txns.length)), (0, .im (IV.ptr (cP p))), (3, .im (IV.ptr (cSt s))), (5, .off 0 0)], [(0, .blk 117 [.im (IV.ptr (cP p)), .im (intsV s.store), .im (bbV s.rd), .im (bbV s.wr), .im (iiV s.vals), .row 1 n]), (1, .row 114 1 (encN 4 cSeat) (seatsL p s n)), (2, .row 113 4 cSeat (seatRow p s n k))], 3⟩) (fun k => k ≤ mS p) (fun k => mS p - k) 0 (Nat.zero_le _) (Shift.sub [(0, 0), (1, 1), (2, 2)] rfl SubE.a SubH.a) ?_
    rintro k hk
    ((repeat apply WP.seq); apply WP.lreg; refine ALK.n OpN.cm rfl ?_; refine ALK.nil ?_; try show WP _ _ _ _ _ _)
    ((repeat apply WP.seq); refine WP.cond rfl (fun h => ?_) (fun h => ?_))
    · (refine WP.skip ?_; show WP _ _ _ _ _ _)
      have hkm : k < mS p := by simp at h; omega
      have e1 := prt_at (n := n) hkm
      have e2 := act_at (n := n) hkm
      have e3 := hS.rdk hlt hkm
      have e4 := hS.wrk hlt hkm
      have hl1 : (seatRow p s n k).length = k := by simp [seatRow]
      ((repeat apply WP.seq); apply WP.block)
      ((repeat apply WP.seq); apply WP.lreg; refine nM rfl rfl ?_; refine nA rfl rfl ?_; refine ALK.nil ?_; try show WP _ _ _ _ _ _)
      ((repeat apply WP.seq); apply WP.ldraw; refine nM rfl rfl ?_; refine nM rfl rfl ?_; refine nM rfl rfl ?_; refine ALK.n OpN.ix rfl ?_; (first | refine ALK.n (opn_load rfl (eB rfl) rfl) rfl ?_ | refine ALK.r OpR.ld rfl ?_); refine nM rfl rfl ?_; refine nM rfl rfl ?_; refine ALK.n OpN.ix rfl ?_; (first | refine ALK.n (opn_load rfl (eB rfl) rfl) rfl ?_ | refine ALK.r OpR.ld rfl ?_); (first | refine ALK.n (opn_field (o := 1) rfl (eB rfl)) rfl ?_ | refine ALK.n (opn_fieldOff (o := 1) rfl (eB rfl)) rfl ?_); (first | refine ALK.n (opn_load rfl (eB rfl) rfl) rfl ?_ | refine ALK.r OpR.ld rfl ?_); refine nM rfl rfl ?_; refine ALK.n OpN.ix rfl ?_; (first | refine ALK.n (opn_load rfl (eB rfl) rfl) rfl ?_ | refine ALK.r OpR.ld rfl ?_); refine nM rfl rfl ?_; refine ALK.n OpN.ix rfl ?_; (first | refine ALK.n (opn_load rfl (eB rfl) rfl) rfl ?_ | refine ALK.r OpR.ld rfl ?_); (first | refine ALK.n (opn_field (o := 2) rfl (eB rfl)) rfl ?_ | refine ALK.n (opn_fieldOff (o := 2) rfl (eB rfl)) rfl ?_); (first | refine ALK.n (opn_load rfl (eB rfl) rfl) rfl ?_ | refine ALK.r OpR.ld rfl ?_); refine nM rfl rfl ?_; refine ALK.n OpN.ix rfl ?_; (first | refine ALK.n (opn_load rfl (eB rfl) rfl) rfl ?_ | refine ALK.r OpR.ld rfl ?_); refine nM rfl rfl ?_; refine ALK.n OpN.ix rfl ?_; (first | refine ALK.n (opn_load rfl (eB rfl) rfl) rfl ?_ | refine ALK.r OpR.ld rfl ?_); (first | refine ALK.n (opn_build rfl rfl rfl rfl (Pc rfl (eB rfl) Cs.a rfl rfl (Pc rfl (eB rfl) Cs.a rfl rfl (Pc rfl (eB rfl) Cs.a rfl rfl (Pc rfl (eB rfl) Cs.a rfl rfl Parts.nil))))) rfl ?_ | refine ALK.n (opn_buildA rfl rfl rfl rfl rfl (Pc rfl (eB rfl) Cs.a rfl rfl (Pc rfl (eB rfl) Cs.a rfl rfl (Pc rfl (eB rfl) Cs.a rfl rfl (Pc rfl (eB rfl) Cs.a rfl rfl Parts.nil))))) rfl ?_); refine ALK.n (opn_slit rfl rfl rfl rfl rfl rfl (Pc rfl (eB rfl) Cs.a rfl rfl Parts.nil) rfl) rfl ?_; refine ALK.e (ope_append (b := 4) [seatOf p s n k] rfl rfl rfl rfl rfl (eB rfl) (eB rfl) rfl rfl (by rw [hl1]; simp; omega) rfl) rfl rfl ?_; refine nA rfl rfl ?_; refine ALK.nilD (by kernel_rfl) ?_; try show WP _ _ _ _ _ _)
      ((repeat apply WP.seq); apply WP.lreg; refine ALK.n OpN.ar rfl ?_; refine nM rfl rfl ?_; refine ALK.nil ?_; try show WP _ _ _ _ _ _)
      show ∃ _, _ ∧ _ ∧ _
      have hx := seatRow_next p s n k
      exact ⟨k + 1, by omega, by omega, Shift.sub [(0, 0), (1, 1), (2, 3)] rfl (SubE.cons rfl SLe.a (SubE.cons rfl SLe.a (SubE.cons rfl SLe.a (SubE.cons rfl SLe.a (SubE.cons rfl SLe.a (SubE.cons rfl (SLe.row rfl (by rw [hl1]; rfl)) SubE.a)))))) (SubH.cons rfl rfl (ObLe.blk SLes.a) (SubH.cons rfl rfl (ObLe.row rfl) (SubH.cons rfl rfl (ObLe.row hx.symm) SubH.nil)))⟩
    · ((repeat apply WP.seq); refine WP.exit ?_; show WP _ _ _ _ _ _)
      have hkm : k = mS p := by simp at h; omega
      subst hkm
      refine WP.shift (Shift.frzRow 9 rfl rfl) ?_
      have hl2 : (seatsL p s n).length = n := by simp [seatsL]
      have hx := seatsL_next p s n
      ((repeat apply WP.seq); apply WP.lreg; refine nM rfl rfl ?_; refine nM rfl rfl ?_; (first | refine ALK.n (opn_nilPtr (eB rfl)) rfl ?_ | refine ALK.n (opn_nilOff (eB rfl)) rfl ?_); (first | refine ALK.n (opn_field (o := 5) rfl (eB rfl)) rfl ?_ | refine ALK.n (opn_fieldOff (o := 5) rfl (eB rfl)) rfl ?_); (first | refine ALK.n (opn_load rfl (eB rfl) rfl) rfl ?_ | refine ALK.r OpR.ld rfl ?_); refine nM rfl rfl ?_; refine ALK.n (opn_slit rfl rfl rfl rfl rfl rfl (Pc rfl (eB rfl) Cs.a rfl rfl Parts.nil) rfl) rfl ?_; refine ALK.e (ope_append (b := 24) [seatRow p s n (mS p)] rfl rfl rfl rfl rfl (eB rfl) (eB rfl) rfl rfl (by rw [hl2]; simp; omega) rfl) rfl rfl ?_; (first | refine ALK.n (opn_nilPtr (eB rfl)) rfl ?_ | refine ALK.n (opn_nilOff (eB rfl)) rfl ?_); (first | refine ALK.n (opn_field (o := 5) rfl (eB rfl)) rfl ?_ | refine ALK.n (opn_fieldOff (o := 5) rfl (eB rfl)) rfl ?_); (first | refine ALK.e (ope_store rfl (eB rfl) (eB rfl) Cs.a rfl rfl rfl) rfl rfl ?_ | refine ALK.e (ope_storeRow rfl rfl (eB rfl) (eB rfl) (oc_val rfl) rfl rfl (by assumption)) rfl rfl ?_); refine ALK.nil ?_; try show WP _ _ _ _ _ _)
      ((repeat apply WP.seq); apply WP.lreg; refine ALK.n OpN.ar rfl ?_; refine nM rfl rfl ?_; refine ALK.nil ?_; try show WP _ _ _ _ _ _)
      show ∃ _, _ ∧ _ ∧ _
      exact ⟨n + 1, by omega, by omega, Shift.sub [(0, 0), (1, 3)] rfl SubE.a (SubH.cons rfl rfl (ObLe.blk (SLes.cons SLe.a (SLes.cons SLe.a (SLes.cons SLe.a (SLes.cons SLe.a (SLes.cons SLe.a (SLes.cons (SLe.row rfl (by rw [hl2]; rfl)) SLes.nil))))))) (SubH.cons rfl rfl (ObLe.row hx.symm) SubH.nil))⟩
  · ((repeat apply WP.seq); refine WP.exit ?_; show WP _ _ _ _ _ _)
    have hn2 : n = nT p := by
      have : nT p = p.txns.length := rfl
      simp at h; omega
    subst hn2
    refine WP.shift (Shift.frzIn 0 5 rfl rfl rfl rfl) ?_
    refine WP.shift (Shift.frzBlk 5 rfl rfl rfl) ?_
    ((repeat apply WP.seq); apply WP.lreg; refine nM rfl rfl ?_; refine nA rfl rfl ?_; refine ALK.nil ?_; try show WP _ _ _ _ _ _)
    ((repeat apply WP.seq); refine WP.ret ?_; first | exact RetOk.one Try.results60 ResV.a | exact RetOk.tup Try.results60 rfl ResVs.a)
end Go.Proofs.Ytjgmbgfcffnanac
