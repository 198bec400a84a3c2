/- The reference's clash; what the hall tells of free ways; what may be, in the program and in the reference. States of one's own. Package steps: Turn, a state of one's own by a step that may be. -/
import Derived.Test.YtjgmbgfcffnanabGreatDoorZ10
import Derived.Test.YtjgmbgfcffnanabGreatDoorZ18
set_option maxRecDepth 100000
set_option maxHeartbeats 4000000
namespace Go.Proofs.YtjgmbgfcffnanabGreatDoor
open Go.RowKit
section
variable {C : Cfg} {σ : Env} {d : Option Tmp} {ty : TypeId} {pos : String} {after : Array Edge} {gu : Option (Nat × Bool)}
theorem opn_remT {t t' : TypeId} {x y : Go.Operand} {a b : Int} (hx : Ev σ x (.im (IV.int a))) (hy : Ev σ y (.im (IV.int b))) (h1 : 0 < b) : OpN C ⟨d,.binOp .rem t x y t',ty,pos,after,gu⟩ σ (.im (IV.int (a.tmod b))) := OpN.pure fun ρ μ ac w hl ha => by
 have h2 := hx.val hl (by simp [Op.operands])
 have h3 := hy.val hl (by simp [Op.operands])
 refine ⟨_,?_,R_im.2 rfl⟩
 have hb : ¬ b = 0 := by omega
 simp [execOp,h2,h3,run_eqGuard_int,binOp,Op.intDiv,hb]
end
def cStp (x : StepT) : List IV := [IV.int x.kind,IV.int x.txn,IV.int x.shard]
abbrev stpV (x : StepT) : IV := IV.agg (cStp x)
abbrev stpsV (l : List StepT) : IV := IV.view 3 cStp l
theorem free1_fn (p : Plan) (s : StT) (key : Int) (k : Nat) (hm : p.shards = (mS p : Int)) (hm1 : 1 ≤ mS p) : Fn CC 146 [IV.int key,IV.ptr [hallV p s],IV.ptr [IV.int (k : Int)]] (IV.bool (hereB (mS p) k key)) := by
 refine Fn.of_wp _ Tryz.func146 rfl (by kernel_rfl) Tryz.ntmps146 rfl ?_
 intro F hD hG
 (refine zR ?_;refine sA ?_;refine zN ?_)
 (refine zW ?_;(iterate 3 refine sA ?_);refine fd 0 ?_;(iterate 2 refine sA ?_);refine fd 0 ?_;refine sA ?_;refine ALK.n (opn_remT (eB rfl) (eB rfl) (by omega)) rfl ?_;(iterate 3 refine sA ?_);refine zD ?_)
 have hr : hereB (mS p) k key = decide (key.tmod p.shards = (k : Int)) := by rw [hm];rfl
 exact zT Tryz.results146
theorem freeB_at {p : Plan} {s : StT} {n k j : Nat} (hj : j < n) (h1 : goneB p s j k = false) (h2 : byB (hereB (mS p) k) (txN p j) (txN p n) = true) : freeB p s n k = false := by
 cases hf : freeB p s n k with
 | false => rfl
 | true =>
  have := List.all_eq_true.1 hf j (List.mem_range.2 hj)
  rw [h1,h2] at this;cases this
theorem free_fn (p : Plan) (s : StT) (n k : Nat) (hp : checkPlan p = 0) (hb : TxsB p.txns) (hn : n < nT p) (hk : k < mS p) : Fn CC 128 [hallV p s,IV.int n,IV.int k] (IV.bool (freeB p s n k)) := by
 obtain ⟨hm,hm1,hm4,hn8,hall⟩ := plan_m hp
 obtain ⟨ht,hok⟩ := hall n hn
 have hbn : TxnB (txN p n) := hb _ (List.mem_of_getElem? ht)
 refine Fn.of_wp _ Tryz.func128 rfl (by kernel_rfl) Tryz.ntmps128 rfl ?_
 intro F hD hG
 (refine zR ?_;(iterate 3 refine sA ?_);refine zN ?_)
 (refine zR ?_;refine ALK.n (opn_makeFunc (Evs.cons Ev.a (Evs.cons Ev.a Evs.nil))) rfl ?_;refine sA ?_;refine zN ?_)
 (refine zR ?_;(iterate 2 refine sA ?_);refine zN ?_)
 refine zB ?_
 refine WP.loop (fun j : Nat => ⟨[(11,.im (IV.int j)),(10,.im (IV.int n)),(1,.im (IV.int n)),(3,.im (IV.ptr [hallV p s])),(5,.im (IV.ptr [IV.int k])),(7,.im (IV.fn 146 [IV.ptr [hallV p s],IV.ptr [IV.int k]]))],[],0⟩) (fun j => j ≤ n ∧ ∀ i,i < j → (goneB p s i k || !byB (hereB (mS p) k) (txN p i) (txN p n)) = true) (fun j => n - j) 0 ⟨Nat.zero_le _,fun i hi => by omega⟩ (Shift.sub [] rfl SubE.a SubH.nil) ?_
 rintro j ⟨hj,hf⟩
 (refine zR ?_;refine sA ?_;refine zN ?_)
 refine zC (fun h => ?_) (fun h => ?_)
 ·refine zS ?_
  have hlt : j < n := by simp at h;omega
  obtain ⟨htj,_⟩ := hall j (by omega)
  have hbj : TxnB (txN p j) := hb _ (List.mem_of_getElem? htj)
  have hx := seatsL_at (p := p) (s := s) (show j < nT p by omega)
  have hy := seatRow_at (p := p) (s := s) (n := j) hk
  refine zB ?_
  (refine zR ?_;(iterate 2 refine sA ?_);refine zN ?_)
  (refine zW ?_;(iterate 2 refine sA ?_);refine fd 5 ?_;(iterate 7 refine sA ?_);refine ALK.n (opn_call (gone_fn (seatOf p s j k)) (Evs.cons Ev.a Evs.nil)) rfl ?_;(iterate 2 refine sA ?_);(iterate 2 refine gA ?_);refine gF 0 ?_;(iterate 2 refine gA ?_);refine gF 1 ?_;(iterate 6 refine gA ?_);refine gF 0 ?_;(iterate 2 refine gA ?_);refine gF 1 ?_;(iterate 5 refine gA ?_);refine ALK.g (fun hb => opn_call (By_fn (txN p j) (txN p n) _ _ (hereB (mS p) k) (fun key => free1_fn p s key k hm hm1) hbj hbn) (Evs.cons Ev.a (Evs.cons Ev.a (Evs.cons Ev.a Evs.nil)))) rfl rfl rfl ?_;refine sA ?_;refine zD ?_)
  refine zC (fun h => ?_) (fun h => ?_)
  ·(refine zR ?_;refine sA ?_;refine zN ?_)
   have hr : freeB p s n k = false := by
    rw [gone_row,Bool.and_eq_true,Bool.not_eq_true'] at h
    exact freeB_at hlt h.1 h.2
   exact zT Tryz.results128
  refine zS ?_
  (refine zR ?_;(iterate 2 refine sA ?_);refine zN ?_)
  show ∃ _,_ ∧ _ ∧ _
  refine ⟨j + 1,⟨by omega,fun i hi => ?_⟩,by omega,(Shift.sub [] rfl SubE.a SubH.nil)⟩
  by_cases e : i = j
  ·subst e
   rw [gone_row] at h
   revert h
   generalize goneB p s i k = a
   generalize byB (hereB (mS p) k) (txN p i) (txN p n) = b
   cases a <;> cases b <;> simp
  ·exact hf i (by omega)
 ·refine zE ?_
  have hj2 : j = n := by simp at h;omega
  subst hj2
  (refine zR ?_;refine sA ?_;refine zN ?_)
  have hr : freeB p s j k = true := by
   unfold freeB
   rw [List.all_eq_true]
   exact fun i hi => hf i (List.mem_range.1 hi)
  exact zT Tryz.results128
theorem may_fn (p : Plan) (s : StT) (kind : Int) (n k : Nat) (hp : checkPlan p = 0) (hB : TxsB p.txns) (hn : n < nT p) (hk : k < mS p) : Fn CC 109 [hallV p s,IV.agg [IV.int kind,IV.int (n : Int),IV.int (k : Int)]] (IV.bool (mayB p s kind n k)) := by
 have hx := seatsL_at (p := p) (s := s) hn
 have hy := seatRow_at (p := p) (s := s) (n := n) hk
 refine Fn.of_wp _ Tryz.func109 rfl (by kernel_rfl) Tryz.ntmps109 rfl ?_
 intro F hD hG
 (refine zR ?_;(iterate 2 refine sA ?_);refine zN ?_)
 (refine zW ?_;(iterate 2 refine sA ?_);refine fd 5 ?_;refine sA ?_;refine fd 1 ?_;(iterate 3 refine sA ?_);refine fd 2 ?_;(iterate 5 refine sA ?_);refine zD ?_)
 refine WP.shift (Shift.frzBlk 5 rfl rfl rfl) ?_
 (refine zR ?_;refine fd 0 ?_;(iterate 2 refine sA ?_);refine zN ?_)
 refine zC (fun h => ?_) (fun h => ?_)
 ·(refine zR ?_;refine fd 0 ?_;(iterate 2 refine sA ?_);refine gF 2 ?_;(iterate 2 refine gA ?_);(iterate 2 refine sA ?_);refine gA ?_;refine gF 1 ?_;refine gA ?_;refine gF 2 ?_;refine gA ?_;refine ALK.g (fun hb => opn_call (free_fn p s n k hp hB hn hk) (Evs.cons Ev.a (Evs.cons Ev.a (Evs.cons Ev.a Evs.nil)))) rfl rfl rfl ?_;(iterate 2 refine sA ?_);refine zN ?_)
  have h1 : kind = 1 := by simpa using h
  have hr : mayB p s kind n k = (prt p n k && !bAt s.rd n k && freeB p s n k) := by unfold mayB;rw [if_pos h1,Bool.and_assoc]
  exact zT Tryz.results109
 refine zS ?_
 (refine zR ?_;refine fd 1 ?_;(iterate 2 refine sA ?_);refine gF 3 ?_;(iterate 2 refine gA ?_);(iterate 2 refine sA ?_);refine gA ?_;refine gF 1 ?_;refine gA ?_;refine ALK.g (fun hb => opn_call (all_fn p s n hn) (Evs.cons Ev.a (Evs.cons Ev.a Evs.nil))) rfl rfl rfl ?_;(iterate 2 refine sA ?_);refine zN ?_)
 have h1 : ¬ kind = 1 := by simpa using h
 have hr : mayB p s kind n k = (act p n k && !bAt s.wr n k && allB p s n) := by unfold mayB;rw [if_neg h1,Bool.and_assoc]
 exact zT Tryz.results109
theorem boolInfo : (Tryz.prog.info? 4).map (fun i => (i.zero,i.size,i.bytes)) = some (some (.bool false),1,1) := by kernel_rfl
def encBv (b : Bool) : List Value := [.bool b]
theorem encBv_len (x : Bool) : (encBv x).length = 1 := rfl
theorem oneBv (x : Bool) : ∀ u ∈ encBv x,u.oneCell' = true := by simp [encBv,Value.oneCell']
theorem slices_Clone_bool (A n c) (xs : List Bool) (w : World) (h : Rd 1 encBv w A n xs) (hn : n ≤ 8796093022208) :
 Calls Tryz.prog 72 #[.slice A n c] w fun e w' => ∃ v,e = .returned v ∧ Own 4 1 encBv w' w.heap.size v xs ∧ Below w.heap.size w w' := by
 obtain ⟨i0,hi0,hz0,hz1,hz2⟩ := info_parts boolInfo
 have hq : ∀ (w : World) (a : Option Addr) (n c n' c' : Nat),(binOp .eql 109 (.slice a n c) (.slice none n' c')).run Tryz.prog w = .ok (.bool a.isNone) w := fun w a n c n' c' => Lib.run_eql_slice_nil w _ _ a n c n' c' Tryz.underlying109
 rcases A with _ | ad
 ·have hxs : xs = [] := by
   rcases h.2 with rfl | ⟨b,o,hA,_⟩
   ·rfl
   ·cases hA
  subst hxs
  go_enter Tryz.func72,Tryz.ntmps72
  go_wp2
  go_ret
  exact ⟨_,rfl,Own.nil,Below.refl _ _⟩
 ·go_enter Tryz.func72,Tryz.ntmps72
  go_wp2_with (at_builtin;refine wpList_append_rd rfl _ _ _ rfl w.heap.size 4 i0 (.bool false) 1 1 Tryz.underlying109 hi0 hz0 hz1 hz2 rfl (by decide) encBv_len oneBv _ [] rfl (Own.empty w rfl (Nat.le_refl _)) (some ad) n c xs rfl (h.alloc _) (by simp only [List.length_nil];unfold maxLen;omega) (by simp only [List.length_nil];omega) (by simp) ?_;intro v2 w2 hv2 hg2;have hb2 := (Own.empty (α := Bool) (E := 4) (k := 1) (enc := encBv) w rfl (Nat.le_refl _)).frame (Bel.alloc (Below.refl _ _) _) (Nat.le_refl _) hg2;rw [List.nil_append] at hv2)
  go_ret
  exact ⟨_,rfl,hv2,hb2⟩
theorem CloneB_row (xs : List Bool) (hn : xs.length ≤ 8796093022208) : FnRow CC 72 [boolsV xs] 4 1 cB xs := by
 refine ⟨⟨⟨_,Tryz.func72,rfl,by kernel_rfl⟩,fun _ => rfl⟩,fun μ w vs hvs ha => ?_⟩
 obtain ⟨a,vs1,rfl,h1,rfl⟩ := hvs
 obtain ⟨A,c,rfl,_,_,hrd⟩ := view_rd ha (enc' := encBv) (fun _ => rfl) (fun _ => by simp [encBv]) h1
 refine (slices_Clone_bool A xs.length c xs w hrd hn).mono ?_
 rintro e w' ⟨v,rfl,ho,hb⟩
 have hiv : ∀ xs : List Bool,IVs μ (xs.flatMap cB) (xs.flatMap encBv) := fun xs => by
  induction xs with
  | nil => rfl
  | cons x xs ih => exact ⟨_,_,rfl,rfl,ih⟩
 refine ⟨v,μ,xs.flatMap encBv,rfl,ho,hiv xs,fun u hu => ?_,fun g hg => ?_,Stp.of_below ha hb⟩
 ·obtain ⟨x,_,hx⟩ := List.mem_flatMap.1 hu
  simp [encBv] at hx;subst hx;rfl
 ·cases e : μ g with
  | none => rfl
  | some c =>
   have h1 := ha.lt (b := g) (by rw [e];simp)
   have h2 := (World.ownsRow.lt ho g hg).1
   omega
theorem take_snocD {α : Type} {l : List (List α)} {n : Nat} (h : n < l.length) : l.take (n + 1) = l.take n ++ [l.getD n []] := take_snoc (getD_of_lt [] h)
abbrev nestB (l : List (List Bool)) : HObj := .nest 109 4 1 cB l
abbrev nestI (l : List (List Int)) : HObj := .nest 42 3 1 cI l
abbrev rowI (l : List Int) : HObj := .row 3 1 cI l
abbrev ownSV (s : StT) (a b c d : Nat) : SV := .agg [.row a s.store.length,.row b s.rd.length,.row c s.wr.length,.row d s.vals.length]
abbrev ownH (s : StT) (a b c d : Nat) : List Ent := [(a,rowI s.store),(b,nestB s.rd),(c,nestB s.wr),(d,nestI s.vals)]
theorem Own_new (s : StT) (h1 : s.store.length ≤ 1000) (h2 : s.rd.length ≤ 8) (h3 : s.wr.length = s.rd.length) (h4 : s.vals.length = s.rd.length) (h5 : ∀ l ∈ s.rd,l.length ≤ 1000) (h6 : ∀ l ∈ s.wr,l.length ≤ 1000) (h7 : ∀ l ∈ s.vals,l.length ≤ 1000) :
 FnE CC 50 0 [.im (stV s)] [] (ownSV s 0 1 17 33) (ownH s 0 1 17 33) 49 [] := by
 refine FnE.of_wp _ [] Tryz.func50 rfl (by kernel_rfl) Tryz.ntmps50 rfl rfl rfl rfl rfl rfl rfl rfl rfl ?_
 intro F vs hD hvs
 obtain ⟨v0,rfl⟩ := len1 hvs
 show WP _ _ _ _ _ ⟨[(0,.im (stV s))],[],0⟩
 (refine zR ?_;(iterate 2 refine sA ?_);refine zN ?_)
 (refine zR ?_;refine fd 0 ?_;refine sA ?_;refine ALK.a (opa_callRow (Clone_row s.store (by omega)) (Evs.cons Ev.a Evs.nil)) rfl ?_;(iterate 3 refine sA ?_);refine zN ?_)
 refine WP.shift (Shift.nest0In 2 1 109 4 1 cB (fun _ => rfl) rfl rfl rfl) ?_
 refine WP.shift (Shift.nest0In 2 2 109 4 1 cB (fun _ => rfl) rfl rfl rfl) ?_
 refine WP.shift (Shift.nest0In 2 3 42 3 1 cI (fun _ => rfl) rfl rfl rfl) ?_
 (refine zR ?_;refine fd 1 ?_;(iterate 3 refine sA ?_);refine zN ?_)
 refine zB ?_
 refine WP.loop (fun n : Nat => ⟨[(12,.im (IV.int n)),(10,.im (bbV s.rd)),(11,.im (IV.int s.rd.length)),(1,.im (IV.ptr (cSt s))),(2,.off 0 0),(3,.off 2 0)],[(0,.blk 63 [.im (IV.val (.slice none 0 0)),.im (IV.val (.slice none 0 0)),.im (IV.val (.slice none 0 0)),.im (IV.val (.slice none 0 0))]),(1,rowI s.store),(2,.blk 63 [.row 1 s.store.length,.row 3 n,.row 19 n,.row 35 n]),(3,nestB (s.rd.take n)),(19,nestB (s.wr.take n)),(35,nestI (s.vals.take n))],51⟩) (fun n => n ≤ s.rd.length) (fun n => s.rd.length - n) 0 (Nat.zero_le _)
  (Shift.sub ([(0,0),(1,1),(2,2)] ++ rnN 3 3 ++ rnN 19 19 ++ rnN 35 35) rfl SubE.a (SubH.cons rfl rfl (ObLe.blk SLes.a) (SubH.cons rfl rfl (ObLe.row rfl) (SubH.cons rfl rfl (ObLe.blk SLes.a) (SubH.cons rfl rfl (ObLe.nest rfl) (SubH.cons rfl rfl (ObLe.nest rfl) (SubH.cons rfl rfl (ObLe.nest rfl) SubH.nil))))))) ?_
 rintro n hn
 (refine zR ?_;refine sA ?_;refine zN ?_)
 refine zC (fun h => ?_) (fun h => ?_)
 ·refine zS ?_
  have hlt : n < s.rd.length := by simpa using h
  have e1 : s.rd[n]? = some (s.rd.getD n []) := getD_of_lt [] hlt
  have e2 : s.wr[n]? = some (s.wr.getD n []) := getD_of_lt [] (by omega)
  have e3 : s.vals[n]? = some (s.vals.getD n []) := getD_of_lt [] (by omega)
  have b1 := h5 _ (List.mem_of_getElem? e1)
  have b2 := h6 _ (List.mem_of_getElem? e2)
  have b3 := h7 _ (List.mem_of_getElem? e3)
  refine zB ?_
  (refine zR ?_;(iterate 2 refine sA ?_);refine zN ?_)
  (refine zW ?_;refine fd 1 ?_;refine sA ?_;refine fd 1 ?_;(iterate 4 refine sA ?_);refine ALK.a (opa_callRow (CloneB_row (s.rd.getD n []) (by omega)) (Evs.cons Ev.a Evs.nil)) rfl ?_;refine ALK.n (opn_slitS rfl rfl rfl rfl rfl rfl (Pc rfl (eB rfl) Cs.a rfl rfl Parts.nil)) rfl ?_;refine ALK.e (ope_appendNest rfl rfl rfl rfl (eB rfl) (eB rfl) rfl rfl rfl (by rw [List.length_take];omega)) rfl rfl ?_;refine fd 1 ?_;refine sA ?_;refine zD ?_)
  (refine zW ?_;refine fd 2 ?_;refine sA ?_;refine fd 2 ?_;(iterate 4 refine sA ?_);refine ALK.a (opa_callRow (CloneB_row (s.wr.getD n []) (by omega)) (Evs.cons Ev.a Evs.nil)) rfl ?_;refine ALK.n (opn_slitS rfl rfl rfl rfl rfl rfl (Pc rfl (eB rfl) Cs.a rfl rfl Parts.nil)) rfl ?_;refine ALK.e (ope_appendNest rfl rfl rfl rfl (eB rfl) (eB rfl) rfl rfl rfl (by rw [List.length_take];omega)) rfl rfl ?_;refine fd 2 ?_;refine sA ?_;refine zD ?_)
  (refine zW ?_;refine fd 3 ?_;refine sA ?_;refine fd 3 ?_;(iterate 4 refine sA ?_);refine ALK.a (opa_callRow (Clone_row (s.vals.getD n []) (by omega)) (Evs.cons Ev.a Evs.nil)) rfl ?_;refine ALK.n (opn_slitS rfl rfl rfl rfl rfl rfl (Pc rfl (eB rfl) Cs.a rfl rfl Parts.nil)) rfl ?_;refine ALK.e (ope_appendNest rfl rfl rfl rfl (eB rfl) (eB rfl) rfl rfl rfl (by rw [List.length_take];omega)) rfl rfl ?_;refine fd 3 ?_;refine sA ?_;refine zD ?_)
  (refine zR ?_;(iterate 2 refine sA ?_);refine zN ?_)
  show ∃ _,_ ∧ _ ∧ _
  exact ⟨n + 1,by omega,by omega,Shift.sub ([(0,0),(1,1),(2,2)] ++ rnN 3 52 ++ rnN 19 69 ++ rnN 35 86) rfl SubE.a (SubH.cons rfl rfl (ObLe.blk SLes.a) (SubH.cons rfl rfl (ObLe.row rfl) (SubH.cons rfl rfl (ObLe.blk (SLes.cons SLe.a (SLes.cons (SLe.row rfl (by rw [List.length_take];omega)) (SLes.cons (SLe.row rfl (by rw [List.length_take];omega)) (SLes.cons (SLe.row rfl (by rw [List.length_take];omega)) SLes.nil))))) (SubH.cons rfl rfl (ObLe.nest (take_snocD hlt).symm) (SubH.cons rfl rfl (ObLe.nest (take_snocD (by omega)).symm) (SubH.cons rfl rfl (ObLe.nest (take_snocD (by omega)).symm) SubH.nil))))))⟩
 ·refine zE ?_
  have hn2 : n = s.rd.length := by simp at h;omega
  subst hn2
  (refine zR ?_;(iterate 2 refine sA ?_);refine zN ?_)
  refine WP.shift (Shift.sub (σ' := [(2,.off 49 0)]) (H' := (49,.blk 63 [.row 0 s.store.length,.row 1 s.rd.length,.row 17 s.wr.length,.row 33 s.vals.length]) :: ownH s 0 1 17 33) (fr' := 50) ([(0,1),(49,0)] ++ rnN 1 3 ++ rnN 17 19 ++ rnN 33 35) rfl SubE.a (SubH.cons rfl rfl (ObLe.blk (SLes.cons SLe.a (SLes.cons SLe.a (SLes.cons (SLe.row rfl h3.symm) (SLes.cons (SLe.row rfl h4.symm) SLes.nil))))) (SubH.cons rfl rfl (ObLe.row rfl) (SubH.cons rfl rfl (ObLe.nest List.take_length) (SubH.cons rfl rfl (ObLe.nest (List.take_of_length_le (by omega))) (SubH.cons rfl rfl (ObLe.nest (List.take_of_length_le (by omega))) SubH.nil)))))) ?_
  refine WP.ret ?_
  exact RetOkE.sv1 Tryz.results50 (ResSv.cell rfl rfl rfl rfl) HSb.a Kept.a
theorem txn_Do_new (t : Txn) (xs : List Int) (hb : TxnB t) (hok : checkTxn t = 0) (hx : xs.length = t.reads.length) : FnN CC 75 [txnV t,intsV xs] (IV.tup [resV ⟨runDone t xs,xs⟩,intsV (runSets t xs)]) :=
 ⟨⟨_,Tryz.func75,rfl,by kernel_rfl⟩,fun μ w vs ⟨v0,_,e0,h0,v1,_,e1,h1,e2⟩ ha => by
  subst e0 e1 e2
  obtain ⟨ra,rc,ga,gc,sa,sc,rfl,h⟩ := txn_at ha hb h0
  obtain ⟨xa,xc,rfl,_,_,hr⟩ := view_rd ha cI_val (fun _ => by simp [encI]) h1
  rw [hx] at hr
  rw [hx]
  refine (txn_Do _ _ _ _ _ _ _ _ _ t _ _ xs w h hr hok).mono ?_
  rintro e w' ⟨v1,v2,rfl,o1,o2,hb⟩
  obtain ⟨μ',k1,k2,k3,k4⟩ := own_freeze (mem0_agr w') cI_val encI_len oneI o1
  obtain ⟨ν,m1,m2,m3,m4⟩ := own_freeze k3 cI_val encI_len oneI o2
  have ho : v1.oneCell' = true := by obtain ⟨A,c,e,_⟩ := k4;rw [e];rfl
  refine ⟨_,ν,rfl,⟨[.agg #[.bool _,v1],v2],rfl,_,_,rfl,⟨[.bool _,v1],rfl,⟨_,_,rfl,rfl,_,_,rfl,IV.mono _ m1 k4,rfl⟩,?_⟩,_,_,rfl,m4,rfl⟩,fun b hb => (m2 b hb).elim (fun h => (k2 b h).elim (fun h => absurd rfl h) id) id,m3,hb⟩
  intro u hu
  simp only [List.mem_cons,List.not_mem_nil,or_false] at hu
  rcases hu with rfl | rfl
  ·rfl
  ·exact ho⟩
def rdTo (m k : Nat) (st keys old : List Int) (i : Nat) : List Int := rdV m k st (keys.take i) (old.take i) ++ old.drop i
theorem rdTo_len {m k i : Nat} {st keys old : List Int} (h : old.length = keys.length) : (rdTo m k st keys old i).length = keys.length := by
 unfold rdTo rdV
 rw [List.length_append,List.length_map,List.length_zip,List.length_take,List.length_take,List.length_drop];omega
theorem rdTo_next {m k i : Nat} {st keys old : List Int} {key : Int} (hl : old.length = keys.length) (h : keys[i]? = some key) : rdTo m k st keys old (i + 1) = if hereB m k key then (rdTo m k st keys old i).set i (rdF st key) else rdTo m k st keys old i := by
 have hi := (List.getElem?_eq_some_iff.1 h).1
 have ho : old[i]? = some (old.getD i 0) := getD_of_lt 0 (by omega)
 have hd : old.drop i = old.getD i 0 :: old.drop (i + 1) := by
  rw [List.drop_eq_getElem_cons (by omega)]
  congr 1
  rw [List.getElem?_eq_getElem (by omega)] at ho
  exact Option.some.inj ho
 have hx : (rdV m k st (keys.take i) (old.take i)).length = i := by
  unfold rdV;rw [List.length_map,List.length_zip,List.length_take,List.length_take];omega
 unfold rdTo
 rw [take_snoc h,take_snoc ho]
 have hz : (keys.take i ++ [key]).zip (old.take i ++ [old.getD i 0]) = (keys.take i).zip (old.take i) ++ [(key,old.getD i 0)] := by
  rw [List.zip_append (by rw [List.length_take,List.length_take];omega)];rfl
 have hv : rdV m k st (keys.take i ++ [key]) (old.take i ++ [old.getD i 0]) = rdV m k st (keys.take i) (old.take i) ++ [if hereB m k key then rdF st key else old.getD i 0] := by
  unfold rdV;rw [hz,List.map_append];rfl
 rw [hv,hd]
 by_cases e : hereB m k key = true
 ·rw [if_pos e,if_pos e,List.set_append_right _ _ (by omega),hx,Nat.sub_self]
  simp
 ·rw [if_neg e,if_neg e];simp
theorem rdTo_zero {m k : Nat} {st keys old : List Int} : rdTo m k st keys old 0 = old := by simp [rdTo,rdV]
theorem rdTo_all {m k : Nat} {st keys old : List Int} (h : old.length = keys.length) : rdTo m k st keys old keys.length = rdV m k st keys old := by
 unfold rdTo
 rw [List.take_length,← h,List.take_length,List.drop_length,List.append_nil]
def wrTo (m k : Nat) (st : List Int) (t : Txn) (xs : List Int) (j : Nat) : List Int := putZ st (((t.sets.zip (runSets t xs)).take j).filter fun q => hereB m k q.1.key)
theorem wrTo_len {m k j : Nat} {st xs : List Int} {t : Txn} : (wrTo m k st t xs j).length = st.length := putZ_length _ _
theorem wrTo_next {m k j : Nat} {st xs : List Int} {t : Txn} {q : SetT × Int} (h : (t.sets.zip (runSets t xs))[j]? = some q) : wrTo m k st t xs (j + 1) = if hereB m k q.1.key then (wrTo m k st t xs j).set q.1.key.toNat q.2 else wrTo m k st t xs j := by
 unfold wrTo
 rw [take_snoc h,List.filter_append]
 by_cases e : hereB m k q.1.key = true
 ·rw [if_pos e,show List.filter (fun q : SetT × Int => hereB m k q.1.key) [q] = [q] by simp [List.filter,e]]
  unfold putZ
  rw [List.foldl_append];rfl
 ·rw [if_neg e,show List.filter (fun q : SetT × Int => hereB m k q.1.key) [q] = [] by simp [List.filter,e],List.append_nil]
theorem wrTo_zero {m k : Nat} {st xs : List Int} {t : Txn} : wrTo m k st t xs 0 = st := by simp [wrTo,putZ]
theorem wrTo_all {m k j : Nat} {st xs : List Int} {t : Txn} (h : (t.sets.zip (runSets t xs)).length ≤ j) : wrTo m k st t xs j = putZ st (wrP m k t xs) := by unfold wrTo wrP;rw [List.take_of_length_le h]
theorem here_eq {m k : Nat} {key : Int} (h0 : 0 ≤ key) : hereB m k key = (key % (m : Int) == (k : Int)) := by unfold hereB;rw [Int.tmod_eq_emod_of_nonneg h0];rfl
theorem set_at {α : Type} {l : List α} {n : Nat} {x : α} (h : n < l.length) : (l.set n x)[n]? = some x := by rw [List.getElem?_set_self h]
theorem set_same {α : Type} {l : List α} {n : Nat} {x : α} (h : l[n]? = some x) : l.set n x = l := by
 apply List.ext_getElem?
 intro j
 rw [List.getElem?_set]
 split
 ·rename_i e;subst e
  have := (List.getElem?_eq_some_iff.1 h).1
  rw [if_pos this,h]
 ·rfl
abbrev stBlk (a b c d : Nat) (s : StT) : HObj := .blk 63 [.row a s.store.length,.row b s.rd.length,.row c s.wr.length,.row d s.vals.length]
abbrev turnH (z a b c d : Nat) (s : StT) : List Ent := (z,stBlk a b c d s) :: ownH s a b c d
theorem Turn_new (p : Plan) (s : StT) (kind : Int) (n k : Nat) (v : Valid p s) (hB : TxsB p.txns) (hs : Step p s kind n k) :
 FnE CC 73 50 [.im (planV p),.off 0 0,.im (IV.agg [IV.int kind,IV.int (n : Int),IV.int (k : Int)])] (turnH 0 1 2 18 34 s) (.im (IV.tup [])) (turnH 0 50 51 67 83 (turnS p s kind n k)) 99 [0] := by
 obtain ⟨hm,hm1,hm4,hn8,hall⟩ := plan_m v.plan
 obtain ⟨ht,hok⟩ := hall n hs.hn
 have hbt : TxnB (txN p n) := hB _ (List.mem_of_getElem? ht)
 obtain ⟨hk1,hk2⟩ := right_keys hok
 obtain ⟨hz1,hz2,hz3,hz4⟩ := (right_parts hok).1
 have hkm := hs.hk
 have hnn := hs.hn
 have hnT : nT p = p.txns.length := rfl
 have l1 := v.rdl
 have l2 := v.wrl
 have l3 := v.vall
 have l4 := v.rdr n hnn
 have l5 := v.wrr n hnn
 have l6 := v.valr n hnn
 have l7 := v.store
 have e1 : s.rd[n]? = some (s.rd.getD n []) := getD_of_lt [] (by omega)
 have e2 : s.wr[n]? = some (s.wr.getD n []) := getD_of_lt [] (by omega)
 have e3 : s.vals[n]? = some (s.vals.getD n []) := getD_of_lt [] (by omega)
 refine FnE.of_wp _ [(0,1)] Tryz.func73 rfl (by kernel_rfl) Tryz.ntmps73 rfl rfl rfl rfl rfl rfl rfl rfl rfl ?_
 intro F vs hD hvs
 obtain ⟨v0,v1,v2,rfl⟩ := len3 hvs
 show WP _ _ _ _ _ ⟨[(0,.im (planV p)),(1,.is v1 (.off 0 0)),(2,.im (IV.agg [IV.int kind,IV.int (n : Int),IV.int (k : Int)]))],turnH 0 1 2 18 34 s,50⟩
 (refine zR ?_;(iterate 2 refine sA ?_);refine zN ?_)
 (refine zR ?_;refine fd 1 ?_;refine sA ?_;refine fd 1 ?_;(iterate 5 refine sA ?_);refine zN ?_)
 refine WP.shift (Shift.frzBlk 6 rfl rfl rfl) ?_
 (refine zR ?_;refine fd 0 ?_;(iterate 2 refine sA ?_);refine zN ?_)
 refine zC (fun h => ?_) (fun h => ?_)
 ·have hkd : kind = 1 := by simpa using h
  subst hkd
  have ht1 := turn1 p s n k
  rw [ht1]
  (refine zW ?_;(iterate 2 refine sI ?_);refine fI 1 ?_;refine sI ?_;refine fI 1 ?_;(iterate 2 refine sI ?_);refine ALK.r (opr_loadNest rfl rfl (eB rfl) rfl e1) rfl ?_;refine fI 2 ?_;(iterate 2 refine sI ?_);refine ALK.e (ope_storeNest (z := true) rfl rfl (eB rfl) (eB rfl) (oc_val rfl) rfl e1 rfl (by omega)) rfl rfl ?_;refine zD ?_)
  (refine zR ?_;refine fd 0 ?_;(iterate 3 refine sA ?_);refine zN ?_)
  refine zB ?_
  refine WP.loop (fun i : Nat => ⟨[(37,.im (IV.int i)),(35,.im (intsV (txN p n).reads)),(36,.im (IV.int (txN p n).reads.length)),(1,.is v1 (.off 0 0)),(3,.im (IV.ptr (cP p))),(5,.im (IV.ptr [IV.int 1,IV.int (n : Int),IV.int (k : Int)])),(6,.im (IV.ptr (cT (txN p n))))],[(0,stBlk 1 2 18 34 s),(1,rowI s.store),(2,nestB (set2 s.rd n k true)),(18,nestB s.wr),(34,nestI (s.vals.set n (rdTo (mS p) k s.store (txN p n).reads (s.vals.getD n []) i)))],50⟩) (fun i => i ≤ (txN p n).reads.length) (fun i => (txN p n).reads.length - i) 0 (Nat.zero_le _)
   (Shift.sub ([(0,0),(1,1)] ++ rnN 2 2 ++ rnN 18 18 ++ rnN 34 34) rfl SubE.a (SubH.cons rfl rfl (ObLe.blk SLes.a) (SubH.cons rfl rfl (ObLe.row rfl) (SubH.cons rfl rfl (ObLe.nest rfl) (SubH.cons rfl rfl (ObLe.nest rfl) (SubH.cons rfl rfl (ObLe.nest (by rw [rdTo_zero,set_same e3])) SubH.nil)))))) ?_
  rintro i hi
  (refine zR ?_;refine sA ?_;refine zN ?_)
  refine zC (fun h => ?_) (fun h => ?_)
  ·refine zS ?_
   have hlt : i < (txN p n).reads.length := by simpa using h
   obtain ⟨key,hkey⟩ := get_at hlt
   obtain ⟨k0,k8⟩ := hk1 key (List.mem_of_getElem? hkey)
   have hx := rdTo_next (m := mS p) (k := k) (st := s.store) (old := s.vals.getD n []) l6 hkey
   have hlen := rdTo_len (m := mS p) (k := k) (i := i) (st := s.store) l6
   have hh := here_eq (m := mS p) (k := k) k0
   have e4 : (s.vals.set n (rdTo (mS p) k s.store (txN p n).reads (s.vals.getD n []) i))[n]? = some (rdTo (mS p) k s.store (txN p n).reads (s.vals.getD n []) i) := set_at (by omega)
   have e5 := rdF_at (st := s.store) k0 (by omega)
   refine zB ?_
   (refine zR ?_;(iterate 5 refine sA ?_);refine zN ?_)
   (refine zW ?_;refine sA ?_;refine fd 0 ?_;refine sA ?_;refine ALK.n (opn_rem (eB rfl) (eB rfl) (by omega) (by omega)) rfl ?_;refine fd 2 ?_;(iterate 2 refine sA ?_);refine zD ?_)
   refine zC (fun h => ?_) (fun h => ?_)
   ·rw [hm,← hh] at h
    rw [if_pos h] at hx
    (refine zW ?_;(iterate 2 refine sI ?_);refine fI 3 ?_;refine sI ?_;refine fI 1 ?_;(iterate 2 refine sI ?_);refine ALK.r (opr_loadNest rfl rfl (eB rfl) rfl e4) rfl ?_;(iterate 3 refine sI ?_);refine fI 0 ?_;(iterate 3 refine sI ?_);refine ALK.r (opr_loadRow rfl rfl (eB rfl) rfl e5 rfl) rfl ?_;refine sI ?_;refine ALK.e (ope_storeNest (z := rdF s.store key) rfl rfl (eB rfl) (eB rfl) (oc_val rfl) rfl e4 rfl (by omega)) rfl rfl ?_;refine zD ?_)
    (refine zR ?_;(iterate 2 refine sA ?_);refine zN ?_)
    show ∃ _,_ ∧ _ ∧ _
    exact ⟨i + 1,by omega,by omega,Shift.sub ([(0,0),(1,1)] ++ rnN 2 2 ++ rnN 18 18 ++ rnN 34 34) rfl SubE.a (SubH.cons rfl rfl (ObLe.blk SLes.a) (SubH.cons rfl rfl (ObLe.row rfl) (SubH.cons rfl rfl (ObLe.nest rfl) (SubH.cons rfl rfl (ObLe.nest rfl) (SubH.cons rfl rfl (ObLe.nest (by rw [hx];exact List.set_set ..)) SubH.nil)))))⟩
   ·rw [hm,← hh] at h
    rw [if_neg (by rw [h];simp)] at hx
    refine zS ?_
    (refine zR ?_;(iterate 2 refine sA ?_);refine zN ?_)
    show ∃ _,_ ∧ _ ∧ _
    exact ⟨i + 1,by omega,by omega,Shift.sub ([(0,0),(1,1)] ++ rnN 2 2 ++ rnN 18 18 ++ rnN 34 34) rfl SubE.a (SubH.cons rfl rfl (ObLe.blk SLes.a) (SubH.cons rfl rfl (ObLe.row rfl) (SubH.cons rfl rfl (ObLe.nest rfl) (SubH.cons rfl rfl (ObLe.nest rfl) (SubH.cons rfl rfl (ObLe.nest (by rw [hx])) SubH.nil)))))⟩
  ·refine zE ?_
   have hi2 : i = (txN p n).reads.length := by simp at h;omega
   subst hi2
   rw [rdTo_all l6]
   refine WP.shift (Shift.sub (σ' := [(1,.is v1 (.off 0 0))]) (H' := turnH 0 50 51 67 83 ⟨s.store,set2 s.rd n k true,s.wr,s.vals.set n (rdV (mS p) k s.store (txN p n).reads (s.vals.getD n []))⟩) (fr' := 99) ([(0,0),(50,1)] ++ rnN 51 2 ++ rnN 67 18 ++ rnN 83 34) rfl SubE.a (SubH.cons rfl rfl (ObLe.blk (SLes.cons SLe.a (SLes.cons (SLe.row rfl (set2_len _ _ _ _).symm) (SLes.cons SLe.a (SLes.cons (SLe.row rfl (List.length_set ..).symm) SLes.nil))))) (SubH.cons rfl rfl (ObLe.row rfl) (SubH.cons rfl rfl (ObLe.nest rfl) (SubH.cons rfl rfl (ObLe.nest rfl) (SubH.cons rfl rfl (ObLe.nest rfl) SubH.nil)))))) ?_
   refine WP.ret ?_
   exact RetOkE.none Tryz.results73 HSb.a Kept.a
 refine zS ?_
 have hkd : kind = 2 := by rcases hs.kd with h1 | h1;(subst h1;simp at h);exact h1
 subst hkd
 have ht2 := turn2 p s n k
 rw [ht2]
 (refine zW ?_;(iterate 2 refine sI ?_);refine fI 2 ?_;refine sI ?_;refine fI 1 ?_;(iterate 2 refine sI ?_);refine ALK.r (opr_loadNest rfl rfl (eB rfl) rfl e2) rfl ?_;refine fI 2 ?_;(iterate 2 refine sI ?_);refine ALK.e (ope_storeNest (z := true) rfl rfl (eB rfl) (eB rfl) (oc_val rfl) rfl e2 rfl (by omega)) rfl rfl ?_;refine zD ?_)
 (refine zW ?_;(iterate 3 refine sI ?_);refine fI 3 ?_;refine sI ?_;refine fI 1 ?_;(iterate 2 refine sI ?_);refine ALK.r (opr_loadNest rfl rfl (eB rfl) rfl e3) rfl ?_;refine ALK.r (opr_callLendS (txn_Do_new (txN p n) (s.vals.getD n []) hbt hok l6) (LentS.cons Ev.a .im (LentS.cons (eB rfl) (Lnd.inn rfl e3) LentS.nil))) rfl ?_;(iterate 6 refine sI ?_);refine zD ?_)
 have hle := runSets_len (t := txN p n) (xs := s.vals.getD n [])
 obtain ⟨l,hl⟩ : ∃ l,l = runSets (txN p n) (s.vals.getD n []) := ⟨_,rfl⟩
 rw [← hl] at hle ⊢
 (refine zR ?_;(iterate 3 refine sA ?_);refine zN ?_)
 refine zB ?_
 refine WP.loop (fun j : Nat => ⟨[(93,.im (IV.int j)),(91,.im (intsV l)),(92,.im (IV.int l.length)),(1,.is v1 (.off 0 0)),(3,.im (IV.ptr (cP p))),(5,.im (IV.ptr [IV.int 2,IV.int (n : Int),IV.int (k : Int)])),(6,.im (IV.ptr (cT (txN p n))))],[(0,stBlk 1 2 18 34 s),(1,rowI (wrTo (mS p) k s.store (txN p n) (s.vals.getD n []) j)),(2,nestB s.rd),(18,nestB (set2 s.wr n k true)),(34,nestI s.vals)],50⟩) (fun j => j ≤ l.length) (fun j => l.length - j) 0 (Nat.zero_le _)
  (Shift.sub ([(0,0),(1,1)] ++ rnN 2 2 ++ rnN 18 18 ++ rnN 34 34) rfl SubE.a (SubH.cons rfl rfl (ObLe.blk SLes.a) (SubH.cons rfl rfl (ObLe.row wrTo_zero.symm) (SubH.cons rfl rfl (ObLe.nest rfl) (SubH.cons rfl rfl (ObLe.nest rfl) (SubH.cons rfl rfl (ObLe.nest rfl) SubH.nil)))))) ?_
 rintro j hj
 (refine zR ?_;refine sA ?_;refine zN ?_)
 refine zC (fun h => ?_) (fun h => ?_)
 ·refine zS ?_
  have hjl : j < l.length := by simpa using h
  obtain ⟨z,hz⟩ := get_at hjl
  obtain ⟨q,hq⟩ := get_at (xs := (txN p n).sets) (k := j) (by omega)
  obtain ⟨k0,k8⟩ := hk2 q.key (List.mem_map.2 ⟨q,List.mem_of_getElem? hq,rfl⟩)
  have hzz : ((txN p n).sets.zip (runSets (txN p n) (s.vals.getD n [])))[j]? = some (q,z) := by rw [← hl,List.getElem?_zip_eq_some];exact ⟨hq,hz⟩
  have hx := wrTo_next (m := mS p) (k := k) (st := s.store) hzz
  have hlen := wrTo_len (m := mS p) (k := k) (j := j) (st := s.store) (xs := s.vals.getD n []) (t := txN p n)
  have hh := here_eq (m := mS p) (k := k) k0
  have hkl : q.key.toNat < (wrTo (mS p) k s.store (txN p n) (s.vals.getD n []) j).length := by omega
  refine zB ?_
  (refine zR ?_;(iterate 5 refine sA ?_);refine zN ?_)
  (refine zR ?_;refine fd 2 ?_;(iterate 3 refine sA ?_);refine fd 0 ?_;(iterate 2 refine sA ?_);refine zN ?_)
  (refine zW ?_;refine sA ?_;refine fd 0 ?_;refine sA ?_;refine ALK.n (opn_rem (eB rfl) (eB rfl) (by omega) (by omega)) rfl ?_;refine fd 2 ?_;(iterate 2 refine sA ?_);refine zD ?_)
  refine zC (fun h => ?_) (fun h => ?_)
  ·rw [hm,← hh] at h
   simp only [h,if_true] at hx
   (refine zR ?_;(iterate 2 refine sI ?_);refine fI 0 ?_;(iterate 5 refine sI ?_);refine zN ?_)
   (refine zR ?_;(iterate 2 refine sA ?_);refine zN ?_)
   show ∃ _,_ ∧ _ ∧ _
   exact ⟨j + 1,by omega,by omega,Shift.sub ([(0,0),(1,1)] ++ rnN 2 2 ++ rnN 18 18 ++ rnN 34 34) rfl SubE.a (SubH.cons rfl rfl (ObLe.blk SLes.a) (SubH.cons rfl rfl (ObLe.row hx.symm) (SubH.cons rfl rfl (ObLe.nest rfl) (SubH.cons rfl rfl (ObLe.nest rfl) (SubH.cons rfl rfl (ObLe.nest rfl) SubH.nil)))))⟩
  ·rw [hm,← hh] at h
   simp only [h,Bool.false_eq_true,if_false] at hx
   refine zS ?_
   (refine zR ?_;(iterate 2 refine sA ?_);refine zN ?_)
   show ∃ _,_ ∧ _ ∧ _
   exact ⟨j + 1,by omega,by omega,Shift.sub ([(0,0),(1,1)] ++ rnN 2 2 ++ rnN 18 18 ++ rnN 34 34) rfl SubE.a (SubH.cons rfl rfl (ObLe.blk SLes.a) (SubH.cons rfl rfl (ObLe.row hx.symm) (SubH.cons rfl rfl (ObLe.nest rfl) (SubH.cons rfl rfl (ObLe.nest rfl) (SubH.cons rfl rfl (ObLe.nest rfl) SubH.nil)))))⟩
 ·have hjl : ((txN p n).sets.zip (runSets (txN p n) (s.vals.getD n []))).length ≤ j := by simp at h;rw [List.length_zip,← hl];omega
  (repeat apply WP.seq)
  refine WP.shift (Shift.sub (σ' := [(1,.is v1 (.off 0 0))]) (H' := turnH 0 50 51 67 83 ⟨putZ s.store (wrP (mS p) k (txN p n) (s.vals.getD n [])),s.rd,set2 s.wr n k true,s.vals⟩) (fr' := 99) ([(0,0),(50,1)] ++ rnN 51 2 ++ rnN 67 18 ++ rnN 83 34) rfl SubE.a (SubH.cons rfl rfl (ObLe.blk (SLes.cons (SLe.row rfl (putZ_length _ _).symm) (SLes.cons SLe.a (SLes.cons (SLe.row rfl (set2_len _ _ _ _).symm) (SLes.cons SLe.a SLes.nil))))) (SubH.cons rfl rfl (ObLe.row (wrTo_all hjl)) (SubH.cons rfl rfl (ObLe.nest rfl) (SubH.cons rfl rfl (ObLe.nest rfl) (SubH.cons rfl rfl (ObLe.nest rfl) SubH.nil)))))) ?_
  refine WP.exit ?_
  exact RetOkE.none Tryz.results73 HSb.a Kept.a
end Go.Proofs.YtjgmbgfcffnanabGreatDoor
