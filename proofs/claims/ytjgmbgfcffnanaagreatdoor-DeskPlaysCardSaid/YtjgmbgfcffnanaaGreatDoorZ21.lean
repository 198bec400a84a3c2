/- What Go's library does for the desk, as contracts of the logic; some want to know what the library's variables hold from the begin. Package steps: the hall of a plan and a state. -/
import Derived.Lib.AppendIntMem
import Derived.Lib.AtoiErrMem
import Derived.Test.YtjgmbgfcffnanaaGreatDoorZ14
import Derived.Test.YtjgmbgfcffnanaaGreatDoorZ15
import Derived.Test.YtjgmbgfcffnanaaGreatDoorZ20
set_option maxRecDepth 100000
set_option maxHeartbeats 4000000
namespace Go.Proofs.YtjgmbgfcffnanaaGreatDoor
open Go.RowKit
def GV (M : Mem) (n : String) (cs : Array Value) : Prop := ∃ g,Tryz.prog.globalNamed n = some g ∧ M g = some cs
theorem GV.var {M μ : Mem} {w : World} {n : String} {cs : Array Value} (h : GV M n cs) (hle : Mem.le M μ) (ha : Agr μ w) : w.var? Tryz.prog n = some cs := by
 obtain ⟨g,h1,h2⟩ := h
 obtain ⟨t,fz,h3⟩ := ha g cs (hle g cs h2)
 unfold World.var?
 rw [h1,Option.bind_some,h3]
structure GlobM (M : Mem) : Prop where
 mx : ∃ m : Int,GV M "internal/bytealg.MaxLen" #[.int .i64 m]
 tab : GV M "internal/strconv.uint64pow10" (Lib.pow10Tab.map fun z => Value.int .u64 z).toArray
 syn : ∃ tp p,GV M "strconv.ErrSyntax" #[.iface tp p]
 rng : ∃ tp p,GV M "strconv.ErrRange" #[.iface tp p]
theorem Itoa_fn {M : Mem} (hM : GlobM M) (n : Int) (h : I64 n) : Fn CC 43 [IV.wth M (IV.int n)] (IV.str (digs n)) :=
 Fn.plain Tryz.func43 (by kernel_rfl) (by kernel_rfl) fun μ w vs ⟨v0,_,e0,⟨h0,hle⟩,e1⟩ ha => by
  subst e0 e1
  have h0 : v0 = .int .i64 n := h0
  subst h0
  refine (Tryz.strconv_Itoa n h.1 h.2 w (hM.tab.var hle ha)).mono ?_
  rintro e w' ⟨rfl,k,os,rfl⟩
  exact ⟨rfl,Lib.below_grow _ _ (Nat.le_refl _) k os⟩
theorem yH (n : Int) (h0 : 0 ≤ n) (h1 : n ≤ 99) : Fn CC 43 [IV.int n] (IV.str (digs n)) :=
 Fn.plain Tryz.func43 (by kernel_rfl) (by kernel_rfl) fun μ w vs ⟨v0,_,e0,k0,e1⟩ ha => by
  subst e0 e1
  have k0 : v0 = .int .i64 n := k0
  subst k0
  obtain ⟨i,rfl⟩ : ∃ i : Nat,n = i := ⟨n.toNat,by omega⟩
  refine (Tryz.strconv_Itoa_small i (by omega) w).mono ?_
  rintro e w' ⟨rfl,rfl⟩
  refine ⟨?_,Below.refl _ _⟩
  have : digs (i : Int) = Lib.decDigits i := by
   show (if (i : Int) < 0 then _ else _) = _
   rw [if_neg (by omega)];rfl
  rw [this];rfl
def IV.errB (b : Bool) : IV := ⟨fun _ v => match b with
 | true => v = .nilIface
 | false => ∃ t u,v = .iface t u,fun _ h => h⟩
theorem Atoi_fn {M : Mem} (hM : GlobM M) (s : List UInt8) (hs : s.length ≤ 281474976710656) : Fn CC 94 [IV.wth M (IV.str s)] (IV.tup [IV.int (atN s),IV.errB (atB s)]) := by
 refine ⟨⟨_,Tryz.func94,by kernel_rfl,by kernel_rfl⟩,fun μ w vs ⟨v0,_,e0,⟨h0,hle⟩,e1⟩ ha => ?_⟩
 subst e0 e1
 have h0 : v0 = .string (bS s) := h0
 subst h0
 have hsz : (bS s).size ≤ 281474976710656 := by rw [yL];exact hs
 have fin : ∀ (w' : World) (u : Value),Below w.heap.size w w' → (IV.errB (atB s)).p μ u → ∃ v μ',Ending.returned (.tuple #[.int .i64 (atN s),u]) = .returned v ∧ (IV.tup [IV.int (atN s),IV.errB (atB s)]).p μ' v ∧ Stp μ w μ' w' :=
  fun w' u hb hu => ⟨_,μ,rfl,⟨[_,u],rfl,_,_,rfl,rfl,_,_,rfl,hu,rfl⟩,Stp.of_below ha hb⟩
 cases hr : Lib.atoiAll s with
 | ok v =>
  have hN : atN s = v := by unfold atN;rw [hr]
  have hB : atB s = true := by unfold atB;rw [hr]
  refine (Tryz.strconv_Atoi_ok (bS s) (by omega) v hr w).mono ?_
  rintro e w' ⟨rfl,hw⟩
  rw [← hN]
  refine fin w' _ ?_ (by rw [hB];rfl)
  rcases hw with rfl | ⟨t,rfl⟩
  ·exact Below.refl _ _
  ·exact Lib.bytesWorld_below _ _ _
 | range =>
  have hN : atN s = Lib.atoiSat s := by unfold atN;rw [hr]
  have hB : atB s = false := by unfold atB;rw [hr]
  obtain ⟨tp,p,hv⟩ := hM.rng
  refine (Tryz.strconv_Atoi_range_var (bS s) hsz hr tp p w (hv.var hle ha)).mono ?_
  rintro e w' ⟨N,rfl,_,_,hb⟩
  show ∃ v μ',Ending.returned (.tuple #[.int .i64 (Lib.atoiSat s),_]) = .returned v ∧ _
  rw [← hN]
  exact fin w' _ hb (by rw [hB];exact ⟨_,_,rfl⟩)
 | _ =>
  have hN : atN s = 0 := by unfold atN;rw [hr]
  have hB : atB s = false := by unfold atB;rw [hr]
  obtain ⟨tp,p,hv⟩ := hM.syn
  refine (Tryz.strconv_Atoi_syntax_var (bS s) hsz hr tp p w (hv.var hle ha)).mono ?_
  rintro e w' ⟨N,rfl,_,_,hb⟩
  rw [← hN]
  exact fin w' _ hb (by rw [hB];exact ⟨_,_,rfl⟩)
theorem split_pieces (s : List UInt8) : Lib.splitB ⟨#[32]⟩ 0 (Lib.countB (bS s) ⟨#[32]⟩) (bS s) = (splitS s).map bS := by
 have h1 := Lib.splitB_data ⟨#[32]⟩ 0 (Lib.countB (bS s) ⟨#[32]⟩) (bS s)
 have h2 : Lib.countB (bS s) ⟨#[32]⟩ = s.count 32 := Lib.count_one 32 s
 rw [h2] at h1 ⊢
 have h3 := h1.trans (split_is _ s (Nat.le_refl _))
 rw [← h3,List.map_map]
 conv => lhs;rw [← List.map_id (Lib.splitB _ _ _ _)]
 refine List.map_congr_left fun x _ => ?_
 exact (bS_list x).symm
theorem strs_new {μ : Mem} {w : World} (ha : Agr μ w) (l : List (List UInt8)) (hl : l.length ≤ 140737488355328) (t : TypeId) : ∃ μ',(strsV l).p μ' (.slice (some ⟨w.heap.size,0,none⟩) l.length l.length) ∧ Stp μ w μ' (w.alloc (.cells ((l.map bS).map Value.string).toArray t)) := by
 refine ⟨_,⟨_,_,rfl,Nat.le_refl _,by unfold maxLen;omega,.inr ⟨w.heap.size,0,rfl,fun i x hx => ?_⟩⟩,Stp.newCells ha _ t⟩
 intro j s hj
 have hj0 : j = 0 := by
  cases j with
  | zero => rfl
  | succ j => simp [cStr] at hj
 subst hj0
 have hs : s = IV.str x := by simpa [cStr] using hj.symm
 subst hs
 refine ⟨_,.string (bS x),by unfold Mem.add;rw [if_pos rfl],?_,rfl,rfl⟩
 simp [hx]
theorem u6 {M : Mem} (hM : GlobM M) (s : List UInt8) (hs : s.length ≤ 4294967280) : Fn CC 51 [IV.wth M (IV.str s),IV.str [32]] (strsV (splitS s)) := by
 refine ⟨⟨_,Tryz.func51,by kernel_rfl,by kernel_rfl⟩,fun μ w vs ⟨v0,_,e0,⟨h0,hle⟩,v1,_,e1,h1,e2⟩ ha => ?_⟩
 subst e0 e1 e2
 have h0 : v0 = .string (bS s) := h0
 have h1 : v1 = .string ⟨#[32]⟩ := h1
 subst h0 h1
 obtain ⟨m,hv⟩ := hM.mx
 refine (Tryz.strings_Split (bS s) ⟨#[32]⟩ m w (by rw [yL];omega) ((World.var?_cell (P := Tryz.prog) (by kernel_rfl) (hv.var hle ha) 0).trans rfl) (by decide)).mono ?_
 rintro e w' ⟨rfl,rfl⟩
 have hp := split_pieces s
 have hn : Lib.countB (bS s) ⟨#[32]⟩ + 1 = (splitS s).length := by
  have h1 := Lib.splitB_all ⟨#[32]⟩ (by decide) 0 _ (bS s) rfl
  rw [hp,List.length_map] at h1
  exact h1.symm
 rw [hp,hn]
 have hlen : (splitS s).length ≤ 140737488355328 := by
  have h2 : Lib.countB (bS s) ⟨#[32]⟩ = s.count 32 := Lib.count_one 32 s
  have h3 := List.count_le_length (a := (32 : UInt8)) (l := s)
  omega
 obtain ⟨μ',k1,k2⟩ := strs_new ha (splitS s) hlen 9
 exact ⟨_,μ',rfl,k1,k2⟩
theorem Join_fn (l : List (List UInt8)) (sep : List UInt8) (hl : l.length ≤ 140737488355328) (hb : (joinS sep l).length ≤ 140737488355328) : Fn CC 45 [strsV l,IV.str sep] (IV.str (joinS sep l)) :=
 Fn.plain Tryz.func45 (by kernel_rfl) (by kernel_rfl) fun μ w vs ⟨v0,_,e0,h0,v1,_,e1,h1,e2⟩ ha => by
  subst e0 e1 e2
  have h1 : v1 = .string (bS sep) := h1
  subst h1
  obtain ⟨A,c,rfl,hc,_,h0⟩ := h0
  rcases h0 with rfl | ⟨b,o,rfl,h0⟩
  ·refine (Tryz.strings_Join_none A c (bS sep) w).mono ?_
   rintro e w' ⟨rfl,rfl⟩
   exact ⟨rfl,Below.refl _ _⟩
  ·cases l with
   | nil =>
    refine (Tryz.strings_Join_none _ c (bS sep) w).mono ?_
    rintro e w' ⟨rfl,rfl⟩
    exact ⟨rfl,Below.refl _ _⟩
   | cons x0 l0 =>
    obtain ⟨l,hl0⟩ : ∃ l,l = x0 :: l0 := ⟨_,rfl⟩
    have h00 : l[0]? = some x0 := by rw [hl0];rfl
    rw [← hl0] at hl hb hc h0 ⊢
    have hcell : ∀ (j : Nat) x,(l.map bS)[j]? = some x → w.cell? ⟨b,o + j,none⟩ = some (.string x) := fun j x hj => by
     rw [List.getElem?_map,Option.map_eq_some_iff] at hj
     obtain ⟨y,hy,rfl⟩ := hj
     obtain ⟨cs,v,k1,k2,k3,_⟩ := h0 j y hy 0 (IV.str y) rfl
     have k3 : v = .string (bS y) := k3
     subst k3
     obtain ⟨t,fz,hh⟩ := ha b cs k1
     simp only [World.cell?,hh]
     simpa using k2
    have hbk : b < w.heap.size := by
     obtain ⟨cs,v,k1,_⟩ := h0 0 x0 h00 0 (IV.str x0) rfl
     exact ha.lt (by rw [k1];simp)
    have hmap : (l.map bS).map (fun x => x.data.toList) = l := by
     rw [List.map_map]
     conv => rhs;rw [← List.map_id l]
     exact List.map_congr_left fun x _ => rfl
    have hj : Lib.join ((l.map bS).map (·.data.toList)) (bS sep).data.toList = joinS sep l := by
     rw [hmap];exact joinS_is sep l
    have := Tryz.strings_Join b o c (l.map bS) (bS sep) w hcell hbk (by rw [List.length_map];exact hl) (by rw [List.length_map];exact hc) (by rw [hj];exact hb)
    rw [hj,List.length_map] at this
    exact this
theorem Count_fn (s : List UInt8) : Fn CC 8 [IV.str s,IV.str [10]] (IV.int (cntS s)) :=
 Fn.plain Tryz.func8 (by kernel_rfl) (by kernel_rfl) fun μ w vs ⟨v0,_,e0,h0,v1,_,e1,h1,e2⟩ ha => by
  subst e0 e1 e2
  have h0 : v0 = .string (bS s) := h0
  have h1 : v1 = .string ⟨#[10]⟩ := h1
  subst h0 h1
  refine (Tryz.strings_Count_one (bS s) 10 w).mono ?_
  rintro e w' ⟨rfl,rfl⟩
  exact ⟨rfl,Below.refl _ _⟩
theorem HasSuffix_fn (s : List UInt8) (hs : s.length ≤ 9223372036854775807) : Fn CC 9 [IV.str s,IV.str [10]] (IV.bool (decide (s.getLast? = some 10))) :=
 Fn.plain Tryz.func9 (by kernel_rfl) (by kernel_rfl) fun μ w vs ⟨v0,_,e0,h0,v1,_,e1,h1,e2⟩ ha => by
  subst e0 e1 e2
  have h0 : v0 = .string (bS s) := h0
  have h1 : v1 = .string ⟨#[10]⟩ := h1
  subst h0 h1
  refine (Tryz.strings_HasSuffix (bS s) ⟨#[10]⟩ w (by rw [yL];exact hs)).mono ?_
  rintro e w' ⟨rfl,rfl⟩
  exact ⟨by rw [← hasNL];rfl,Below.refl _ _⟩
theorem vi (u : List UInt8) (hs : u.length < 9223372036854775807) : Fn CC 14 [IV.str (u ++ [10]),IV.str [10]] (IV.str u) :=
 Fn.plain Tryz.func14 (by kernel_rfl) (by kernel_rfl) fun μ w vs ⟨v0,_,e0,h0,v1,_,e1,h1,e2⟩ ha => by
  subst e0 e1 e2
  have h0 : v0 = .string (bS (u ++ [10])) := h0
  have h1 : v1 = .string ⟨#[10]⟩ := h1
  subst h0 h1
  refine (Tryz.strings_TrimSuffix (bS (u ++ [10])) ⟨#[10]⟩ w (by rw [yL,List.length_append,List.length_singleton];omega)).mono ?_
  rintro e w' ⟨rfl,rfl⟩
  refine ⟨?_,Below.refl _ _⟩
  have : Lib.trimSuffix (bS (u ++ [10])).data.toList (⟨#[10]⟩ : ByteArray).data.toList = u := trimNL u
  rw [this];rfl
abbrev bbV (l : List (List Bool)) : IV := IV.view 1 (encN 1 cB) l
abbrev iiV (l : List (List Int)) : IV := IV.view 1 (encN 1 cI) l
def cSt (s : StT) : List IV := [intsV s.store,bbV s.rd,bbV s.wr,iiV s.vals]
abbrev stV (s : StT) : IV := IV.agg (cSt s)
structure SeatT where
 part : Bool
 active : Bool
 read : Bool
 wrote : Bool
def cSeat (x : SeatT) : List IV := [IV.bool x.part,IV.bool x.active,IV.bool x.read,IV.bool x.wrote]
def seatOf (p : Plan) (s : StT) (n k : Nat) : SeatT := ⟨prt p n k,act p n k,bAt s.rd n k,bAt s.wr n k⟩
def seatRow (p : Plan) (s : StT) (n j : Nat) : List SeatT := (List.range j).map (seatOf p s n)
def seatsL (p : Plan) (s : StT) (j : Nat) : List (List SeatT) := (List.range j).map fun n => seatRow p s n (mS p)
abbrev seatsV (l : List (List SeatT)) : IV := IV.view 1 (encN 4 cSeat) l
def cHall (p : Plan) (s : StT) : List IV := [IV.ptr (cP p),intsV s.store,bbV s.rd,bbV s.wr,iiV s.vals,seatsV (seatsL p s (nT p))]
abbrev hallV (p : Plan) (s : StT) : IV := IV.ptr (cHall p s)
theorem seatRow_next (p : Plan) (s : StT) (n j : Nat) : seatRow p s n (j + 1) = seatRow p s n j ++ [seatOf p s n j] := by unfold seatRow;rw [List.range_succ,List.map_append];rfl
theorem seatsL_next (p : Plan) (s : StT) (j : Nat) : seatsL p s (j + 1) = seatsL p s j ++ [seatRow p s j (mS p)] := by unfold seatsL;rw [List.range_succ,List.map_append];rfl
theorem jm {p : Plan} {s : StT} {n j k : Nat} (h : k < j) : (seatRow p s n j)[k]? = some (seatOf p s n k) := by unfold seatRow;rw [List.getElem?_map,List.getElem?_range h];rfl
theorem q7 {p : Plan} {s : StT} {n j : Nat} (h : n < j) : (seatsL p s j)[n]? = some (seatRow p s n (mS p)) := by unfold seatsL;rw [List.getElem?_map,List.getElem?_range h];rfl
structure Shp (p : Plan) (s : StT) : Prop where
 plan : checkPlan p = 0
 shape : shapeB p s = true
theorem Shp.rd {p : Plan} {s : StT} (h : Shp p s) {n : Nat} (hn : n < nT p) : s.rd[n]? = some (s.rd.getD n []) := o9 [] (by rw [(y9.1 h.shape).2.1];exact hn)
theorem Shp.wr {p : Plan} {s : StT} (h : Shp p s) {n : Nat} (hn : n < nT p) : s.wr[n]? = some (s.wr.getD n []) := o9 [] (by rw [(y9.1 h.shape).2.2.1];exact hn)
theorem Shp.vals {p : Plan} {s : StT} (h : Shp p s) {n : Nat} (hn : n < nT p) : s.vals[n]? = some (s.vals.getD n []) := o9 [] (by rw [(y9.1 h.shape).2.2.2.1];exact hn)
theorem Shp.rdk {p : Plan} {s : StT} (h : Shp p s) {n k : Nat} (hn : n < nT p) (hk : k < mS p) : (s.rd.getD n [])[k]? = some (bAt s.rd n k) := o9 false (by rw [((y9.1 h.shape).2.2.2.2 n hn).1];exact hk)
theorem Shp.wrk {p : Plan} {s : StT} (h : Shp p s) {n k : Nat} (hn : n < nT p) (hk : k < mS p) : (s.wr.getD n [])[k]? = some (bAt s.wr n k) := o9 false (by rw [((y9.1 h.shape).2.2.2.2 n hn).2.1];exact hk)
theorem prt_at {p : Plan} {n k : Nat} (hk : k < mS p) : (partL (mS p) (txN p n))[k]? = some (prt p n k) := o9 false (by unfold partL;rw [yF];exact hk)
theorem act_at {p : Plan} {n k : Nat} (hk : k < mS p) : (actL (mS p) (txN p n))[k]? = some (act p n k) := o9 false (by unfold actL;rw [yF];exact hk)
theorem of_fn (p : Plan) (s : StT) (hS : Shp p s) (hb : TxsB p.txns) : Fn CC 118 [IV.ptr (cP p),stV s] (hallV p s) := by
 obtain ⟨hm,hm1,hm4,hn8,hall⟩ := oO hS.plan
 refine Fn.of_wp _ Tryz.func118 rfl (by kernel_rfl) Tryz.ntmps118 rfl ?_
 intro F hD hG
 (refine zR ?_;(iterate 2 refine sA ?_);refine zN ?_)
 (refine zR ?_;(iterate 3 refine sA ?_);refine ALK.a (uT (eB rfl) Cs.a) rfl ?_;refine sA ?_;refine zN ?_)
 (refine zR ?_;(iterate 2 refine sA ?_);refine fd 1 ?_;(iterate 3 refine sA ?_);refine zN ?_)
 refine WP.shift (Shift.row0In 0 5 190 1 (encN 4 cSeat) (fun _ => rfl) rfl rfl rfl) ?_
 refine zB ?_
 refine WP.loop (fun n : Nat => ⟨[(20,.im (IV.int n)),(18,.im (txsV p.txns)),(19,.im (IV.int p.txns.length)),(0,.im (IV.ptr (cP p))),(3,.im (IV.ptr (cSt s))),(5,.off 0 0)],[(0,.blk 187 [.im (IV.ptr (cP p)),.im (intsV s.store),.im (bbV s.rd),.im (bbV s.wr),.im (iiV s.vals),.row 1 n]),(1,.row 190 1 (encN 4 cSeat) (seatsL p s n))],2⟩) (fun n => n ≤ nT p) (fun n => nT p - n) 0 (Nat.zero_le _) (Shift.sub [(0,0),(1,1)] rfl SubE.a SubH.a) ?_
 rintro n hn
 (refine zR ?_;refine sA ?_;refine zN ?_)
 refine zC (fun h => ?_) (fun h => ?_)
 ·refine zS ?_
  have hlt : n < nT p := by simpa [nT] using h
  obtain ⟨ht,hok⟩ := hall n hlt
  have hbt : TxnB (txN p n) := hb _ (List.mem_of_getElem? ht)
  have hr1 := hS.rd hlt
  have hw1 := hS.wr hlt
  refine zB ?_
  (refine zR ?_;(iterate 2 refine sA ?_);refine zN ?_)
  (refine zR ?_;(iterate 4 refine sA ?_);refine ALK.n (o3 (place_Parts_fn p (mS p) n (txN p n) hm hm1 hm4 (by omega) ht hbt hok) (Evs.cons Ev.a (Evs.cons Ev.a Evs.nil))) rfl ?_;(iterate 5 refine sA ?_);refine zN ?_)
  (refine zR ?_;refine sA ?_;refine zN ?_)
  refine WP.shift (Shift.row0 9 193 4 cSeat (fun _ => rfl) rfl) ?_
  (refine zR ?_;(iterate 2 refine sA ?_);refine fd 0 ?_;(iterate 2 refine sA ?_);refine zN ?_)
  refine zB ?_
  refine WP.loop (fun k : Nat => ⟨[(35,.im (IV.int k)),(34,.im (IV.int p.shards)),(6,.im (IV.int n)),(7,.im (boolsV (partL (mS p) (txN p n)))),(8,.im (boolsV (actL (mS p) (txN p n)))),(9,.row 2 k),(20,.im (IV.int n)),(18,.im (txsV p.txns)),(19,.im (IV.int p.txns.length)),(0,.im (IV.ptr (cP p))),(3,.im (IV.ptr (cSt s))),(5,.off 0 0)],[(0,.blk 187 [.im (IV.ptr (cP p)),.im (intsV s.store),.im (bbV s.rd),.im (bbV s.wr),.im (iiV s.vals),.row 1 n]),(1,.row 190 1 (encN 4 cSeat) (seatsL p s n)),(2,.row 193 4 cSeat (seatRow p s n k))],3⟩) (fun k => k ≤ mS p) (fun k => mS p - k) 0 (Nat.zero_le _) (Shift.sub [(0,0),(1,1),(2,2)] rfl SubE.a SubH.a) ?_
  rintro k hk
  (refine zR ?_;refine sA ?_;refine zN ?_)
  refine zC (fun h => ?_) (fun h => ?_)
  ·refine zS ?_
   have hkm : k < mS p := by simp at h;omega
   have e1 := prt_at (n := n) hkm
   have e2 := act_at (n := n) hkm
   have e3 := hS.rdk hlt hkm
   have e4 := hS.wrk hlt hkm
   have hl1 : (seatRow p s n k).length = k := by simp [seatRow]
   refine zB ?_
   (refine zR ?_;(iterate 2 refine sA ?_);refine zN ?_)
   (refine zW ?_;(iterate 9 refine sA ?_);refine fd 1 ?_;(iterate 7 refine sA ?_);refine fd 2 ?_;(iterate 8 refine sA ?_);refine ALK.n (o6 rfl rfl rfl rfl rfl rfl (Pc rfl (eB rfl) Cs.a rfl rfl Parts.nil) rfl) rfl ?_;refine ALK.e (o8 (b := 4) [seatOf p s n k] rfl rfl rfl rfl rfl (eB rfl) (eB rfl) rfl rfl (by rw [hl1];simp;omega) rfl) rfl rfl ?_;refine sA ?_;refine zD ?_)
   (refine zR ?_;(iterate 2 refine sA ?_);refine zN ?_)
   show ∃ _,_ ∧ _ ∧ _
   have hx := seatRow_next p s n k
   exact ⟨k + 1,by omega,by omega,Shift.sub [(0,0),(1,1),(2,3)] rfl (SubE.cons rfl SLe.a (SubE.cons rfl SLe.a (SubE.cons rfl SLe.a (SubE.cons rfl SLe.a (SubE.cons rfl SLe.a (SubE.cons rfl (SLe.row rfl (by rw [hl1];rfl)) SubE.a)))))) (SubH.cons rfl rfl (ObLe.blk SLes.a) (SubH.cons rfl rfl (ObLe.row rfl) (SubH.cons rfl rfl (ObLe.row hx.symm) SubH.nil)))⟩
  ·refine zE ?_
   have hkm : k = mS p := by simp at h;omega
   subst hkm
   refine WP.shift (Shift.frzRow 9 rfl rfl) ?_
   have hl2 : (seatsL p s n).length = n := by simp [seatsL]
   have hx := seatsL_next p s n
   (refine zR ?_;(iterate 3 refine sA ?_);refine fd 5 ?_;(iterate 2 refine sA ?_);refine ALK.n (o6 rfl rfl rfl rfl rfl rfl (Pc rfl (eB rfl) Cs.a rfl rfl Parts.nil) rfl) rfl ?_;refine ALK.e (o8 (b := 24) [seatRow p s n (mS p)] rfl rfl rfl rfl rfl (eB rfl) (eB rfl) rfl rfl (by rw [hl2];simp;omega) rfl) rfl rfl ?_;refine sA ?_;refine fd 5 ?_;refine sA ?_;refine zN ?_)
   (refine zR ?_;(iterate 2 refine sA ?_);refine zN ?_)
   show ∃ _,_ ∧ _ ∧ _
   exact ⟨n + 1,by omega,by omega,Shift.sub [(0,0),(1,3)] rfl SubE.a (SubH.cons rfl rfl (ObLe.blk (SLes.cons SLe.a (SLes.cons SLe.a (SLes.cons SLe.a (SLes.cons SLe.a (SLes.cons SLe.a (SLes.cons (SLe.row rfl (by rw [hl2];rfl)) SLes.nil))))))) (SubH.cons rfl rfl (ObLe.row hx.symm) SubH.nil))⟩
 ·refine zE ?_
  have hn2 : n = nT p := by
   have : nT p = p.txns.length := rfl
   simp at h;omega
  subst hn2
  refine WP.shift (Shift.frzIn 0 5 rfl rfl rfl rfl) ?_
  refine WP.shift (Shift.frzBlk 5 rfl rfl rfl) ?_
  (refine zR ?_;(iterate 2 refine sA ?_);refine zN ?_)
  exact zT Tryz.results118
end Go.Proofs.YtjgmbgfcffnanaaGreatDoor
