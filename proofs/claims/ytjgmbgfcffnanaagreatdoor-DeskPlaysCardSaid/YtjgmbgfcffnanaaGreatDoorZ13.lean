/- The desk, without the program: numerals, words, lines. No condition. Package audit: Audit and its reference; the reference's Reads. The desk, without the program: what a line gives, and what a script gives. No condition. -/
import Derived.Lib.ItoaNum
import Derived.Test.YtjgmbgfcffnanaaGreatDoorZ12
set_option maxRecDepth 100000
set_option maxHeartbeats 4000000
namespace Go.Proofs.YtjgmbgfcffnanaaGreatDoor
open Go.RowKit
abbrev digs (n : Int) : List UInt8 := Go.Lib.itoa n
theorem uY {u : Nat} (h : u < 10) : Go.Lib.decDigits u = [UInt8.ofNat (48 + u)] := by rw [Go.Lib.decDigits,dif_pos h]
theorem jU {u : Nat} (h : ¬ u < 10) : Go.Lib.decDigits u = Go.Lib.decDigits (u / 10) ++ [UInt8.ofNat (48 + u % 10)] := by rw [Go.Lib.decDigits,dif_neg h]
theorem digs_small {n : Int} (h0 : 0 ≤ n) (h1 : n < 10) : digs n = [byteOf (48 + n)] := by
 show (if n < 0 then _ else _) = _
 rw [if_neg (by omega),uY (by omega)]
 unfold byteOf
 congr 2
 omega
theorem digs_big {n : Int} (h : 10 ≤ n) : digs n = digs (n.tdiv 10) ++ digs (n.tmod 10) := by
 have h1 : n.tdiv 10 = n / 10 := Int.tdiv_eq_ediv_of_nonneg (by omega)
 have h2 : n.tmod 10 = n % 10 := Int.tmod_eq_emod_of_nonneg (by omega)
 rw [h1,h2,digs_small (n := n % 10) (by omega) (by omega)]
 show (if n < 0 then _ else _) = (if n / 10 < 0 then _ else _) ++ _
 rw [if_neg (by omega),if_neg (by omega),jU (by omega)]
 congr 1
 ·congr 1;omega
 ·unfold byteOf;congr 2;omega
theorem digs_neg {n : Int} (h0 : n < 0) : digs n = 45 :: digs (-n) := by
 show (if n < 0 then _ else _) = 45 :: (if -n < 0 then _ else _)
 rw [if_pos h0,if_neg (by omega)]
 congr 2
 omega
theorem digs_negBig {n : Int} (h : n ≤ -10) : digs n = digs (n.tdiv 10) ++ digs (-(n.tmod 10)) := by
 have e1 : n.tdiv 10 = -((-n).tdiv 10) := by rw [Int.neg_tdiv];omega
 have e2 : n.tmod 10 = -((-n).tmod 10) := by rw [Int.neg_tmod];omega
 have h1 : (-n).tdiv 10 = (-n) / 10 := Int.tdiv_eq_ediv_of_nonneg (by omega)
 rw [digs_neg (by omega),digs_big (n := -n) (by omega),e1,e2,digs_neg (n := -((-n).tdiv 10)) (by omega),Int.neg_neg,Int.neg_neg]
 rfl
theorem dec_len (u : Nat) : ∀ k,u < 10 ^ k → 1 ≤ k → (Go.Lib.decDigits u).length ≤ k := by
 induction u using Nat.strongRecOn with
 | _ u ih =>
  intro k hk h1
  by_cases h : u < 10
  ·rw [uY h];simpa using h1
  ·rw [jU h,List.length_append]
   have hk2 : k ≠ 1 := by rintro rfl;omega
   obtain ⟨j,rfl⟩ : ∃ j,k = j + 1 := ⟨k - 1,by omega⟩
   rw [Nat.pow_succ] at hk
   have := ih (u / 10) (by omega) j (by omega) (by omega)
   simpa using this
theorem ua {n : Int} (h : I64 n) : (digs n).length ≤ 20 := by
 unfold I64 at h
 show (if n < 0 then _ else _ : List UInt8).length ≤ 20
 split
 ·have := dec_len n.natAbs 19 (by omega) (by omega)
  simp only [List.length_cons];omega
 ·have := dec_len n.toNat 19 (by omega) (by omega)
  omega
theorem digs_len7 {n : Int} (h0 : -999999 ≤ n) (h1 : n ≤ 999999) : (digs n).length ≤ 7 := by
 show (if n < 0 then _ else _ : List UInt8).length ≤ 7
 split
 ·have := dec_len n.natAbs 6 (by omega) (by omega)
  simp only [List.length_cons];omega
 ·have := dec_len n.toNat 6 (by omega) (by omega)
  omega
theorem dec_ne (u : Nat) : Go.Lib.decDigits u ≠ [] := by
 by_cases h : u < 10
 ·rw [uY h];simp
 ·rw [jU h];simp
def dval (b : UInt8) : Int := ((byteOf ((b.toNat : Int) - 48)).toNat : Int)
def numF (n : Int) (b : UInt8) : Int := if b = 45 then n else 10 * n + dval b
def numRn (s : List UInt8) : Int := if s.length < 1 ∨ 7 < s.length then 0 else if s.head? = some 45 then -(s.foldl numF 0) else s.foldl numF 0
def numRb (s : List UInt8) : Bool := if s.length < 1 ∨ 7 < s.length then false else decide (digs (numRn s) = s) && (decide (-999999 ≤ numRn s) && decide (numRn s ≤ 999999))
theorem dval_digit {k : Nat} (h : k < 10) : dval (UInt8.ofNat (48 + k)) = k ∧ UInt8.ofNat (48 + k) ≠ 45 := by
 have : k = 0 ∨ k = 1 ∨ k = 2 ∨ k = 3 ∨ k = 4 ∨ k = 5 ∨ k = 6 ∨ k = 7 ∨ k = 8 ∨ k = 9 := by omega
 rcases this with rfl | rfl | rfl | rfl | rfl | rfl | rfl | rfl | rfl | rfl <;> exact ⟨by decide +kernel,by decide +kernel⟩
theorem fold_dec (u : Nat) : (Go.Lib.decDigits u).foldl numF 0 = u ∧ ∀ b ∈ Go.Lib.decDigits u,b ≠ 45 := by
 induction u using Nat.strongRecOn with
 | _ u ih =>
  by_cases h : u < 10
  ·rw [uY h]
   obtain ⟨h1,h2⟩ := dval_digit h
   refine ⟨?_,fun b hb => by rw [List.mem_singleton.1 hb];exact h2⟩
   show numF 0 _ = _
   unfold numF
   rw [if_neg h2,h1];omega
  ·rw [jU h]
   obtain ⟨h1,h2⟩ := dval_digit (k := u % 10) (by omega)
   obtain ⟨h3,h4⟩ := ih (u / 10) (by omega)
   refine ⟨?_,fun b hb => ?_⟩
   ·rw [List.foldl_append,h3]
    show numF _ _ = _
    unfold numF
    rw [if_neg h2,h1];omega
   ·rcases List.mem_append.1 hb with hb | hb
    ·exact h4 b hb
    ·rw [List.mem_singleton.1 hb];exact h2
theorem num_digs {n : Int} (h0 : -999999 ≤ n) (h1 : n ≤ 999999) : numRn (digs n) = n ∧ numRb (digs n) = true := by
 have hl := digs_len7 h0 h1
 have hne : 1 ≤ (digs n).length := by
  show 1 ≤ (if n < 0 then _ else _ : List UInt8).length
  split
  ·simp
  ·exact List.length_pos_iff.2 (dec_ne _)
 have key : numRn (digs n) = n := by
  unfold numRn
  rw [if_neg (by omega)]
  by_cases hn : n < 0
  ·rw [digs_neg hn]
   show (if some (45 : UInt8) = some 45 then _ else _) = _
   rw [if_pos rfl]
   show -((digs (-n)).foldl numF (numF 0 45)) = n
   have e : numF 0 45 = 0 := by unfold numF;rw [if_pos rfl]
   rw [e]
   have : digs (-n) = Go.Lib.decDigits (-n).toNat := by
    show (if -n < 0 then _ else _) = _
    rw [if_neg (by omega)]
   rw [this,(fold_dec _).1];omega
  ·have : digs n = Go.Lib.decDigits n.toNat := by
    show (if n < 0 then _ else _) = _
    rw [if_neg hn]
   rw [this]
   have hh : (Go.Lib.decDigits n.toNat).head? ≠ some 45 := fun e => (fold_dec n.toNat).2 45 (List.mem_of_mem_head? e) rfl
   rw [if_neg hh,(fold_dec _).1];omega
 refine ⟨key,?_⟩
 unfold numRb
 rw [if_neg (by omega),key]
 simp [h0,h1]
theorem num_back {s : List UInt8} (h : numRb s = true) : s = digs (numRn s) ∧ -999999 ≤ numRn s ∧ numRn s ≤ 999999 := by
 unfold numRb at h
 split at h
 ·cases h
 ·simp only [Bool.and_eq_true,decide_eq_true_eq] at h
  exact ⟨h.1.symm,h.2⟩
def numS (s : List UInt8) : Option Int := if numRb s = true then some (numRn s) else none
theorem numS_digs {n : Int} (h0 : -999999 ≤ n) (h1 : n ≤ 999999) : numS (digs n) = some n := by
 unfold numS
 rw [if_pos (num_digs h0 h1).2,(num_digs h0 h1).1]
theorem numS_none {s : List UInt8} (h : ∀ n,-999999 ≤ n → n ≤ 999999 → s ≠ digs n) : numS s = none := by
 unfold numS
 rw [if_neg]
 intro hb
 obtain ⟨h1,h2,h3⟩ := num_back hb
 exact h _ h2 h3 h1
def splitS : List UInt8 → List (List UInt8)
 | [] => [[]]
 | b :: r => if b = 32 then [] :: splitS r else match splitS r with
  | [] => [[b]]
  | x :: xs => (b :: x) :: xs
theorem splitS_ne (s : List UInt8) : splitS s ≠ [] := by
 cases s with
 | nil => simp [splitS]
 | cons b r =>
  unfold splitS
  split
  ·simp
  ·split <;> simp
def glue (p : List UInt8) : List (List UInt8) → List (List UInt8)
 | [] => [p]
 | x :: xs => (p ++ x) :: xs
theorem uF (b : UInt8) (r : List UInt8) : splitS (b :: r) = if b = 32 then [] :: splitS r else glue [b] (splitS r) := by
 rw [splitS]
 split
 ·rfl
 ·cases h : splitS r with
  | nil => rfl
  | cons x xs => rfl
theorem glue_glue (p q : List UInt8) (l : List (List UInt8)) (h : l ≠ []) : glue p (glue q l) = glue (p ++ q) l := by
 cases l with
 | nil => exact absurd rfl h
 | cons x xs => simp [glue]
theorem glue_nil {l : List (List UInt8)} (h : l ≠ []) : glue [] l = l := by
 cases l with
 | nil => exact absurd rfl h
 | cons x xs => rfl
theorem glue_space (p r : List UInt8) : glue p (splitS (32 :: r)) = p :: splitS r := by
 rw [uF,if_pos rfl]
 show (p ++ []) :: _ = _
 rw [List.append_nil]
theorem glue_other {b : UInt8} (hb : b ≠ 32) (p r : List UInt8) : glue p (splitS (b :: r)) = glue (p ++ [b]) (splitS r) := by
 rw [uF,if_neg hb,glue_glue _ _ _ (splitS_ne r)]
def joinS (sep : List UInt8) : List (List UInt8) → List UInt8
 | [] => []
 | [x] => x
 | x :: y :: l => x ++ sep ++ joinS sep (y :: l)
theorem joinS_snoc (sep : List UInt8) (l : List (List UInt8)) (x : List UInt8) : joinS sep (l ++ [x]) = if l = [] then x else joinS sep l ++ sep ++ x := by
 induction l with
 | nil => rfl
 | cons a l ih =>
  rw [if_neg (by simp)]
  cases l with
  | nil => rfl
  | cons b l =>
   have h := ih
   rw [if_neg (by simp)] at h
   show a ++ sep ++ joinS sep ((b :: l) ++ [x]) = (a ++ sep ++ joinS sep (b :: l)) ++ sep ++ x
   rw [h];simp
theorem Equal_fn (xs ys : List Int) : Fn CC 92 [intsV xs,intsV ys] (IV.bool (decide (xs = ys))) := by
 refine Fn.of_wp _ Tryz.func92 rfl (by kernel_rfl) Tryz.ntmps92 rfl ?_
 intro F hD hG
 refine WP.len 0 rfl (fun hl1 => ?_)
 refine WP.len 1 rfl (fun hl2 => ?_)
 (refine zR ?_;refine sA ?_;refine zN ?_)
 (refine zR ?_;(iterate 5 refine sA ?_);refine zN ?_)
 refine zC (fun h => ?_) (fun h => ?_)
 ·(refine zR ?_;refine sA ?_;refine zN ?_)
  have hr : decide (xs = ys) = false := by
   simp only [bne_iff_ne,ne_eq] at h
   exact decide_eq_false fun e => h (by rw [e])
  exact zT Tryz.results92
 refine zS ?_
 have hlen : xs.length = ys.length := by simp at h;omega
 (refine zR ?_;(iterate 3 refine sA ?_);refine zN ?_)
 refine zB ?_
 refine WP.loop (fun k : Nat => ⟨[(13,.im (IV.int k)),(12,.im (IV.int xs.length)),(0,.im (intsV xs)),(1,.im (intsV ys))],[],0⟩) (fun k => k ≤ xs.length ∧ xs.take k = ys.take k) (fun k => xs.length - k) 0 ⟨Nat.zero_le _,rfl⟩ (Shift.sub [] rfl SubE.a SubH.nil) ?_
 rintro k ⟨hk,he⟩
 (refine zR ?_;refine sA ?_;refine zN ?_)
 refine zC (fun h => ?_) (fun h => ?_)
 ·refine zS ?_
  have hlt : k < xs.length := by simpa using h
  obtain ⟨x,hx⟩ := oc hlt
  obtain ⟨y,hy⟩ := oc (xs := ys) (k := k) (by omega)
  refine zB ?_
  (refine zR ?_;(iterate 2 refine sA ?_);refine zN ?_)
  (refine zW ?_;(iterate 9 refine sA ?_);refine zD ?_)
  refine zC (fun h => ?_) (fun h => ?_)
  ·(refine zR ?_;refine sA ?_;refine zN ?_)
   have hr : decide (xs = ys) = false := decide_eq_false (ne_at hx hy fun e => by subst e;simp at h)
   exact zT Tryz.results92
  refine zS ?_
  (refine zR ?_;(iterate 2 refine sA ?_);refine zN ?_)
  show ∃ _,_ ∧ _ ∧ _
  exact ⟨k + 1,⟨by omega,uR he hx hy (by simpa using h)⟩,by omega,(Shift.sub [] rfl SubE.a SubH.nil)⟩
 ·refine zE ?_
  (refine zR ?_;refine sA ?_;refine zN ?_)
  have hr : decide (xs = ys) = true := decide_eq_true (qu he (by simp at h;omega) hlen)
  exact zT Tryz.results92
def diffAt : List Res → List Res → Option Nat
 | x :: xs,y :: ys => if x = y then (diffAt xs ys).map (· + 1) else some 0
 | _,_ => none
theorem diffAt_at : ∀ {a b : List Res} {k : Nat} {x y : Res},a.take k = b.take k → a[k]? = some x → b[k]? = some y → x ≠ y → diffAt a b = some k
 | [],_,k,x,y,_,h,_,_ => by simp at h
 | _ :: _,[],k,x,y,_,_,h,_ => by simp at h
 | u :: a,v :: b,0,x,y,_,h1,h2,hne => by
  simp at h1 h2
  subst h1 h2
  unfold diffAt
  rw [if_neg hne]
 | u :: a,v :: b,k + 1,x,y,he,h1,h2,hne => by
  rw [List.take_succ_cons,List.take_succ_cons] at he
  injection he with e1 e2
  unfold diffAt
  rw [if_pos e1,diffAt_at e2 (by simpa using h1) (by simpa using h2) hne]
  rfl
theorem jz : ∀ (a : List Res),diffAt a a = none
 | [] => rfl
 | x :: a => by unfold diffAt;rw [if_pos rfl,jz a];rfl
def audE (s : List Int) (l : List Txn) (st : List Int) (rs : List Res) : Int := if serE s l = 0 then (if st.length = 8 ∧ rs.length = l.length then 0 else 1) else serE s l
def audN (s : List Int) (l : List Txn) (st : List Int) (rs : List Res) : Int := if audE s l st rs = 0 then (match diffAt (serR s l) rs with
 | some k => (k : Int)
 | none => if serS s l = st then -1 else l.length) else 0
theorem Audit_fn (s : List Int) (l : List Txn) (st : List Int) (rs : List Res) (hbt : TxsB l) : Fn CC 50 [intsV s,txsV l,intsV st,ressV rs] (IV.tup [IV.int (audN s l st rs),IV.int (audE s l st rs)]) := by
 refine Fn.of_wp _ Tryz.func50 rfl (by kernel_rfl) Tryz.ntmps50 rfl ?_
 intro F hD hG
 refine WP.len 1 rfl (fun hl1 => ?_)
 refine WP.len 3 rfl (fun hl3 => ?_)
 (refine zR ?_;(iterate 2 refine sA ?_);refine zN ?_)
 (refine zR ?_;(iterate 2 refine sA ?_);refine ALK.n (o3 (store_Serial_fn s l hbt) (Evs.cons Ev.a (Evs.cons Ev.a Evs.nil))) rfl ?_;(iterate 7 refine sA ?_);refine zN ?_)
 (refine zR ?_;(iterate 2 refine sA ?_);refine zN ?_)
 refine zC (fun h => ?_) (fun h => ?_)
 ·(refine zR ?_;(iterate 3 refine sA ?_);refine zN ?_)
  have hne : ¬ serE s l = 0 := by simpa using h
  have h1 : audE s l st rs = serE s l := by unfold audE;rw [if_neg hne]
  have h2 : audN s l st rs = 0 := by unfold audN;rw [h1,if_neg hne]
  rw [h1,h2]
  exact zT Tryz.results50
 refine zS ?_
 have h0 : serE s l = 0 := by simpa using h
 rw [serL_of h0,serV_of h0]
 have hrl := qc s l
 (refine zR ?_;refine sA ?_;refine ALK.n (o3 (yP st) (Evs.cons Ev.a Evs.nil)) rfl ?_;(iterate 2 refine sA ?_);(iterate 5 refine gA ?_);refine sA ?_;refine zN ?_)
 refine zC (fun h => ?_) (fun h => ?_)
 ·(refine zR ?_;(iterate 2 refine sA ?_);refine zN ?_)
  have h1 : audE s l st rs = 1 := by
   unfold audE
   rw [if_pos h0,if_neg]
   rintro ⟨a,b⟩
   rw [if_pos a,b] at h
   simp at h
  have h2 : audN s l st rs = 0 := by unfold audN;rw [h1];rfl
  rw [h1,h2]
  exact zT Tryz.results50
 refine zS ?_
 have hc : st.length = 8 ∧ rs.length = l.length := by
  by_cases a : st.length = 8
  ·rw [if_pos a] at h
   simp at h
   exact ⟨a,by omega⟩
  ·rw [if_neg a] at h
   simp at h
 have hE : audE s l st rs = 0 := by unfold audE;rw [if_pos h0,if_pos hc]
 have hN : audN s l st rs = match diffAt (serR s l) rs with
  | some k => (k : Int)
  | none => if serS s l = st then -1 else l.length := by unfold audN;rw [if_pos hE]
 rw [hE]
 (refine zR ?_;(iterate 3 refine sA ?_);refine zN ?_)
 refine zB ?_
 refine WP.loop (fun k : Nat => ⟨[(37,.im (IV.int k)),(35,.im (ressV (serR s l))),(36,.im (IV.int (serR s l).length)),(1,.im (txsV l)),(2,.im (intsV st)),(3,.im (ressV rs)),(10,.im (intsV (serS s l)))],[],0⟩) (fun k => k ≤ l.length ∧ (serR s l).take k = rs.take k) (fun k => l.length - k) 0 ⟨Nat.zero_le _,rfl⟩ (Shift.sub [] rfl SubE.a SubH.nil) ?_
 rintro k ⟨hk,he⟩
 (refine zR ?_;refine sA ?_;refine zN ?_)
 refine zC (fun h => ?_) (fun h => ?_)
 ·refine zS ?_
  have hlt : k < l.length := by simp at h;omega
  obtain ⟨x,hx⟩ := oc (xs := serR s l) (k := k) (by omega)
  obtain ⟨y,hy⟩ := oc (xs := rs) (k := k) (by omega)
  refine zB ?_
  (refine zR ?_;(iterate 6 refine sA ?_);refine zN ?_)
  refine WP.shift (Shift.frzBlk 14 rfl rfl rfl) ?_
  (refine zW ?_;refine fd 0 ?_;(iterate 4 refine sA ?_);refine fd 0 ?_;(iterate 3 refine sA ?_);refine gF 1 ?_;(iterate 4 refine gA ?_);refine gF 1 ?_;refine gA ?_;refine ALK.g (fun hb => o3 (Equal_fn _ _) (Evs.cons Ev.a (Evs.cons Ev.a Evs.nil))) rfl rfl rfl ?_;refine gA ?_;refine sA ?_;refine zD ?_)
  refine zC (fun h => ?_) (fun h => ?_)
  ·(refine zR ?_;(iterate 3 refine sA ?_);refine zN ?_)
   have hd : diffAt (serR s l) rs = some k := diffAt_at he hx hy fun e => by subst e;simp at h
   rw [hN,hd]
   exact zT Tryz.results50
  refine zS ?_
  have hxy : x = y := by
   obtain ⟨a,b⟩ := x
   obtain ⟨c,d⟩ := y
   simp at h
   rw [h.1,h.2]
  (refine zR ?_;(iterate 2 refine sA ?_);refine zN ?_)
  show ∃ _,_ ∧ _ ∧ _
  exact ⟨k + 1,⟨by omega,uR he hx hy hxy⟩,by omega,(Shift.sub [] rfl SubE.a SubH.nil)⟩
 ·refine zE ?_
  have hall : serR s l = rs := qu he (by simp at h;omega) (by omega)
  have hd : diffAt (serR s l) rs = none := by rw [hall];exact jz _
  (refine zR ?_;(iterate 2 refine sA ?_);refine ALK.n (o3 (Equal_fn _ _) (Evs.cons Ev.a (Evs.cons Ev.a Evs.nil))) rfl ?_;refine sA ?_;refine zN ?_)
  refine zC (fun h => ?_) (fun h => ?_)
  ·(refine zR ?_;(iterate 4 refine sA ?_);refine zN ?_)
   have hn : ¬ serS s l = st := by simpa using h
   have hr : audN s l st rs = (l.length : Int) := by rw [hN,hd];exact if_neg hn
   rw [hr]
   exact zT Tryz.results50
  refine zS ?_
  have hn : serS s l = st := by simpa using h
  have hr : audN s l st rs = -1 := by rw [hN,hd];exact if_pos hn
  (refine zR ?_;(iterate 2 refine sA ?_);refine zN ?_)
  rw [hr]
  exact zT Tryz.results50
structure Dk where
 first : List Int
 s : StT
def sPut : List UInt8 := [112,117,116]
def sRead : List UInt8 := [114,101,97,100]
def sWrite : List UInt8 := [119,114,105,116,101]
def sCan : List UInt8 := [99,97,110]
def sStore : List UInt8 := [115,116,111,114,101]
def sRest : List UInt8 := [114,101,115,116]
def sAudit : List UInt8 := [97,117,100,105,116]
def sOk : List UInt8 := [111,107]
def sOver : List UInt8 := [111,118,101,114]
def sError : List UInt8 := [101,114,114,111,114,32]
def errT (e : Int) : List UInt8 := sError ++ digs e
def stepT (x : StepT) : List UInt8 := (if x.kind = 2 then [119,114,105,116,101,32] else [114,101,97,100,32]) ++ digs x.txn ++ [32] ++ digs x.shard
def canT (l : List StepT) : List UInt8 := joinS [59,32] (l.map stepT)
def storeT (l : List Int) : List UInt8 := joinS [32] (l.map digs)
def idxW (w : List UInt8) : Int := if w = sPut then 0 else if w = sRead then 1 else if w = sWrite then 2 else -1
def putD (p : Plan) (d : Dk) (a : Nat) (b : Int) : Dk := ⟨d.s.store.set a b,beginS p (d.s.store.set a b)⟩
def doD (p : Plan) (d : Dk) (x : StepT) : Dk := ⟨d.first,doS p d.s x⟩
def actS (p : Plan) (d : Dk) (i a b : Int) : List UInt8 × Dk :=
 if a < 0 then (errT 1,d) else if i = 0 then (if a < 8 then (sOk,putD p d a.toNat b) else (errT 3,d))
 else if b < 0 then (errT 1,d) else if doE p d.s ⟨i,a,b⟩ = 0 then (sOk,doD p d ⟨i,a,b⟩) else (errT (doE p d.s ⟨i,a,b⟩),d)
def wordsS (p : Plan) (d : Dk) (w a b : List UInt8) : List UInt8 × Dk :=
 if idxW w = -1 then (errT 1,d) else match numS a,numS b with
  | some x,some y => actS p d (idxW w) x y
  | _,_ => (errT 1,d)
def splitD (p : Plan) (d : Dk) : List (List UInt8) → List UInt8 × Dk
 | [w,a,b] => wordsS p d w a b
 | _ => (errT 1,d)
def restD (p : Plan) (d : Dk) : Dk := ⟨d.first,(onF p [] d.s 0).1⟩
def restN (p : Plan) (d : Dk) : Int := ((onF p [] d.s 0).2 : Int)
def auditN (p : Plan) (d : Dk) : Int := audN d.first p.txns d.s.store (resR p d.s)
def lineS (p : Plan) (d : Dk) (l : List UInt8) : List UInt8 × Dk :=
 if l = sCan then (if overB p d.s then sOver else canT (canL p d.s),d)
 else if l = sStore then (storeT d.s.store,d)
 else if l = sRest then (digs (restN p d),restD p d)
 else if l = sAudit then (if resE p d.s = 0 then digs (auditN p d) else errT (resE p d.s),d)
 else splitD p d (splitS l)
def linesS : List UInt8 → List (List UInt8)
 | [] => []
 | b :: r => if b = 10 then [] :: linesS r else match linesS r with
  | [] => [[b]]
  | x :: xs => (b :: x) :: xs
def stp (p : Plan) (q : List UInt8 × Dk) (l : List UInt8) : List UInt8 × Dk := (q.1 ++ ((lineS p q.2 l).1 ++ [10]),(lineS p q.2 l).2)
def runQ (p : Plan) (ls : List (List UInt8)) (q : List UInt8 × Dk) : List UInt8 × Dk := ls.foldl (stp p) q
def zero8 : List Int := [0,0,0,0,0,0,0,0]
def dk0 (p : Plan) : Dk := ⟨zero8,beginS p zero8⟩
def cntS (t : List UInt8) : Nat := t.count 10
def scriptE (b t : List UInt8) : Int := if (readS b).2 = 0 then (if 4096 < t.length ∨ 40 < cntS t then 2 else if t ≠ [] ∧ t.getLast? ≠ some 10 then 1 else 0) else (readS b).2
def scriptS (b t : List UInt8) : List UInt8 := if scriptE b t = 0 then (runQ (readS b).1 (linesS t) ([],dk0 (readS b).1)).1 else []
theorem I64.wrap' (x : Int) : I64 (wrap64 x) := by unfold wrap64 I64;omega
theorem I64.reck {op a b : Int} (ha : I64 a) (hb : I64 b) : I64 (reckonN op a b) := by
 unfold reckonN
 split;· exact ha
 split;· exact I64.wrap' _
 split;· exact I64.wrap' _
 split;· exact I64.wrap' _
 split;· unfold I64 at *;omega
 split;· unfold I64 at *;omega
 unfold I64;omega
theorem I64.getD {l : List Int} (h : ∀ x ∈ l,I64 x) (n : Nat) : I64 (l.getD n 0) := by
 rw [List.getD_eq_getElem?_getD]
 cases e : l[n]? with
 | none => unfold I64;simp
 | some x => exact h x (List.mem_of_getElem? e)
theorem I64.val {xs : List Int} {o : Operand} (h : ∀ x ∈ xs,I64 x) (ho : I64 o.n) : I64 (Go.Proofs.YtjgmbgfcffnanaaGreatDoor.val xs o) := by
 show I64 (valueOf _ _ _)
 unfold valueOf
 split
 ·exact ho
 ·exact I64.getD h _
theorem I64.sets {t : Txn} {xs : List Int} (ht : TxnI t) (h : ∀ x ∈ xs,I64 x) : ∀ y ∈ runSets t xs,I64 y := by
 intro y hy
 unfold runSets at hy
 split at hy
 ·obtain ⟨s,hs,rfl⟩ := List.mem_map.1 hy
  exact I64.reck (I64.val h (ht.2 s hs).1) (I64.val h (ht.2 s hs).2)
 ·cases hy
theorem I64.set {l : List Int} (h : ∀ x ∈ l,I64 x) {y : Int} (hy : I64 y) (i : Nat) : ∀ x ∈ l.set i y,I64 x := fun x hx => (List.mem_or_eq_of_mem_set hx).elim (h x) (fun e => e ▸ hy)
theorem I64.putZ : ∀ {q : List (SetT × Int)} {l : List Int},(∀ x ∈ l,I64 x) → (∀ y ∈ q,I64 y.2) → ∀ x ∈ putZ l q,I64 x
 | [],_,h,_ => h
 | y :: q,_,h,hq => I64.putZ (q := q) (I64.set h (hq y List.mem_cons_self) _) fun z hz => hq z (List.mem_cons_of_mem _ hz)
structure StI (s : StT) : Prop where
 store : ∀ x ∈ s.store,I64 x
 vals : ∀ l ∈ s.vals,∀ x ∈ l,I64 x
theorem StI.row {s : StT} (h : StI s) (n : Nat) : ∀ x ∈ s.vals.getD n [],I64 x := by
 intro x hx
 rw [List.getD_eq_getElem?_getD] at hx
 cases e : s.vals[n]? with
 | none => rw [e] at hx;cases hx
 | some l => rw [e] at hx;exact h.vals l (List.mem_of_getElem? e) x hx
theorem StI.turn {p : Plan} {s : StT} (h : StI s) (hp : PlanI p) (kind : Int) (n k : Nat) : StI (turnS p s kind n k) := by
 unfold turnS
 split
 ·refine ⟨h.store,fun l hl x hx => ?_⟩
  rcases List.mem_or_eq_of_mem_set hl with h1 | rfl
  ·exact h.vals l h1 x hx
  ·unfold rdV at hx
   obtain ⟨q,hq,rfl⟩ := List.mem_map.1 hx
   split
   ·exact I64.getD h.store _
   ·exact h.row n _ (List.of_mem_zip hq).2
 ·refine ⟨I64.putZ h.store fun y hy => ?_,h.vals⟩
  unfold wrP at hy
  have h2 := (List.of_mem_zip (List.mem_filter.1 hy).1).2
  refine I64.sets ?_ (h.row n) _ h2
  unfold txN
  rw [List.getD_eq_getElem?_getD]
  cases e : p.txns[n]? with
  | none => exact ⟨fun g hg => (by cases hg),fun s hs => (by cases hs)⟩
  | some t => exact hp t (List.mem_of_getElem? e)
theorem StI.begin {p : Plan} {st : List Int} (h : ∀ x ∈ st,I64 x) : StI (beginS p st) := ⟨h,fun l hl x hx => by
 obtain ⟨t,_,rfl⟩ := List.mem_map.1 hl
 rw [List.eq_of_mem_replicate hx];unfold I64;omega⟩
theorem StI.on {p : Plan} {s0 picks : List Int} (hp : PlanI p) : ∀ {f : Nat} {s : StT} {n : Nat},Reach p s0 s → StI s → StI (onS p picks f s n).1
 | 0,s,n,_,h => h
 | f + 1,s,n,r,h => by
  cases ho : overB p s with
  | true => rw [onS_over ho];exact h
  | false =>
   obtain ⟨x,hx,he,_⟩ := r.nxt ho picks n
   rw [onS_go ho,he]
   exact StI.on hp (r.turnX hx) (h.turn hp _ _ _)
structure Good (p : Plan) (d : Dk) : Prop where
 r : Reach p d.first d.s
 i : StI d.s
 f : ∀ x ∈ d.first,I64 x
theorem Good.v {p : Plan} {d : Dk} (h : Good p d) : Valid p d.s := h.r.v
theorem Good.begin {p : Plan} {st : List Int} (hc : checkPlan p = 0) (h8 : st.length = 8) (h : ∀ x ∈ st,I64 x) : Good p ⟨st,beginS p st⟩ := by
 refine ⟨Reach.begin ?_,StI.begin h,h⟩
 unfold beginE
 rw [if_pos hc,if_pos h8]
theorem Good.zero {p : Plan} (hc : checkPlan p = 0) : Good p (dk0 p) := Good.begin hc rfl (by
 intro x hx
 simp only [zero8,List.mem_cons,List.not_mem_nil,or_false,or_self] at hx
 subst hx;unfold I64;omega)
theorem Good.put {p : Plan} {d : Dk} (h : Good p d) (a : Nat) {b : Int} (hb : I64 b) : Good p (putD p d a b) :=
 Good.begin h.v.plan (by rw [List.length_set];exact h.v.store) (I64.set h.i.store hb a)
theorem Good.turn {p : Plan} {d : Dk} (h : Good p d) (hp : PlanI p) {x : StepT} (hx : x ∈ canL p d.s) : Good p ⟨d.first,turnX p d.s x⟩ := ⟨h.r.turnX hx,h.i.turn hp _ _ _,h.f⟩
theorem Good.doD {p : Plan} {d : Dk} (h : Good p d) (hp : PlanI p) {x : StepT} (h0 : doE p d.s x = 0) : Good p (doD p d x) := by
 unfold Go.Proofs.YtjgmbgfcffnanaaGreatDoor.doD doS
 rw [if_pos h0]
 exact h.turn hp ((doE_can h.v x).1 h0)
theorem Good.rest {p : Plan} {d : Dk} (h : Good p d) (hp : PlanI p) : Good p (restD p d) ∧ overB p (restD p d).s = true ∧ 0 ≤ restN p d ∧ restN p d ≤ 64 := by
 obtain ⟨h1,h2,h3⟩ := onS_end (picks := []) (f := togo p d.s) (n := 0) h.r (Nat.le_refl _)
 have h4 := togo_le h.v
 refine ⟨⟨h1,StI.on hp h.r h.i,h.f⟩,h2,?_⟩
 unfold restN onF
 omega
theorem numS_some {s : List UInt8} {n : Int} (h : numS s = some n) : s = digs n ∧ -999999 ≤ n ∧ n ≤ 999999 := by
 unfold numS at h
 split at h
 ·rename_i hb
  injection h with h
  subst h
  exact num_back hb
 ·cases h
theorem numS_I {s : List UInt8} {n : Int} (h : numS s = some n) : I64 n := by
 obtain ⟨_,h1,h2⟩ := numS_some h
 unfold I64;omega
theorem Good.act {p : Plan} {d : Dk} (h : Good p d) (hp : PlanI p) (i a : Int) {b : Int} (hb : I64 b) : Good p (actS p d i a b).2 := by
 unfold actS
 split;· exact h
 split
 ·split
  ·exact h.put _ hb
  ·exact h
 split;· exact h
 split
 ·rename_i h0
  exact h.doD hp h0
 ·exact h
theorem Good.words {p : Plan} {d : Dk} (h : Good p d) (hp : PlanI p) (w a b : List UInt8) : Good p (wordsS p d w a b).2 := by
 unfold wordsS
 split;· exact h
 cases ha : numS a with
 | none => exact h
 | some x =>
  cases hb : numS b with
  | none => exact h
  | some y => exact h.act hp _ _ (numS_I hb)
theorem Good.split {p : Plan} {d : Dk} (h : Good p d) (hp : PlanI p) (ws : List (List UInt8)) : Good p (splitD p d ws).2 := by
 unfold splitD
 split
 ·exact h.words hp _ _ _
 ·exact h
theorem Good.line {p : Plan} {d : Dk} (h : Good p d) (hp : PlanI p) (l : List UInt8) : Good p (lineS p d l).2 := by
 unfold lineS
 split;· exact h
 split;· exact h
 split;· exact (h.rest hp).1
 split;· exact h
 exact h.split hp _
theorem audN_bound (s : List Int) (l : List Txn) (st : List Int) (rs : List Res) : -1 ≤ audN s l st rs ∧ audN s l st rs ≤ l.length := by
 unfold audN
 split
 ·rename_i h
  split
  ·rename_i k hk
   have key : ∀ (a b : List Res) (k : Nat),diffAt a b = some k → k ≤ a.length := by
    intro a
    induction a with
    | nil => intro b k h;unfold diffAt at h;cases b <;> simp at h
    | cons x a ih =>
     intro b k h
     cases b with
     | nil => unfold diffAt at h;simp at h
     | cons y b =>
      unfold diffAt at h
      split at h
      ·obtain ⟨j,hj,e⟩ := Option.map_eq_some_iff.1 h
       have := ih b j hj
       simp only [List.length_cons];omega
      ·injection h with h;omega
   have h1 := key _ _ _ hk
   rw [qc] at h1
   omega
  ·split <;> omega
 ·omega
theorem errno_do {p : Plan} {s : StT} (v : Valid p s) (x : StepT) : 0 ≤ doE p s x ∧ doE p s x ≤ 8 := by
 unfold doE
 rw [if_pos (ud.2 v)]
 split
 ·split;· omega
  split;· omega
  split;· omega
  split <;> omega
 ·omega
theorem v6 {p : Plan} {s : StT} (v : Valid p s) : resE p s = 0 ∨ resE p s = 8 := by
 unfold resE
 rw [if_pos (ud.2 v)]
 split
 ·exact .inl rfl
 ·exact .inr rfl
theorem vf (sep : List UInt8) (k : Nat) : ∀ (l : List (List UInt8)),(∀ x ∈ l,x.length ≤ k) → (joinS sep l).length ≤ l.length * (k + sep.length)
 | [],_ => by simp [joinS]
 | [x],h => by
  have := h x List.mem_cons_self
  simp only [joinS,List.length_cons,List.length_nil];omega
 | x :: y :: l,h => by
  have h1 := h x List.mem_cons_self
  have h2 := vf sep k (y :: l) fun z hz => h z (List.mem_cons_of_mem _ hz)
  simp only [joinS,List.length_append]
  rw [List.length_cons (a := x),Nat.add_mul]
  omega
theorem ut {n : Int} (h0 : 0 ≤ n) (h1 : n ≤ 99) : (digs n).length ≤ 2 := by
 show (if n < 0 then _ else _ : List UInt8).length ≤ 2
 rw [if_neg (by omega)]
 exact dec_len n.toNat 2 (by omega) (by omega)
theorem errT_len {e : Int} (h0 : 0 ≤ e) (h1 : e ≤ 99) : (errT e).length ≤ 8 := by
 have := ut h0 h1
 unfold errT sError
 simp only [List.length_append,List.length_cons,List.length_nil];omega
theorem can_rng {p : Plan} {s : StT} (v : Valid p s) {x : StepT} (h : x ∈ canL p s) : (x.kind = 1 ∨ x.kind = 2) ∧ 0 ≤ x.txn ∧ x.txn < 8 ∧ 0 ≤ x.shard ∧ x.shard < 4 := by
 obtain ⟨hm,hm1,hm4,hn8,_⟩ := oO v.plan
 obtain ⟨n,k,h1,h2,h3,h4,_⟩ := uI.1 h
 refine ⟨h1,?_⟩
 rw [h2]
 simp only
 omega
theorem jY {p : Plan} {s : StT} (v : Valid p s) {x : StepT} (h : x ∈ canL p s) : (stepT x).length ≤ 12 := by
 obtain ⟨_,h1,h2,h3,h4⟩ := can_rng v h
 have := ut h1 (by omega)
 have := ut h3 (by omega)
 unfold stepT
 split <;> (simp only [List.length_append,List.length_cons,List.length_nil];omega)
theorem can_len {p : Plan} {s : StT} (v : Valid p s) : (canL p s).length ≤ 64 := by
 obtain ⟨hm,hm1,hm4,hn8,_⟩ := oO v.plan
 exact canTo_len hm4 hn8 3
theorem canT_len {p : Plan} {s : StT} (v : Valid p s) : (canT (canL p s)).length ≤ 900 := by
 have h1 := vf [59,32] 12 ((canL p s).map stepT) fun x hx => by
  obtain ⟨y,hy,rfl⟩ := List.mem_map.1 hx
  exact jY v hy
 have h2 := can_len v
 rw [List.length_map] at h1
 have h3 : (canL p s).length * (12 + [59,32].length) ≤ 64 * 14 := Nat.mul_le_mul_right _ h2
 unfold canT;omega
theorem j1 {l : List Int} (h8 : l.length ≤ 8) (h : ∀ x ∈ l,I64 x) : (storeT l).length ≤ 200 := by
 have h1 := vf [32] 20 (l.map digs) fun x hx => by
  obtain ⟨y,hy,rfl⟩ := List.mem_map.1 hx
  exact ua (h y hy)
 rw [List.length_map] at h1
 have h3 : l.length * (20 + [32].length) ≤ 8 * 21 := Nat.mul_le_mul_right _ h8
 unfold storeT;omega
theorem Good.audit {p : Plan} {d : Dk} (h : Good p d) : -1 ≤ auditN p d ∧ auditN p d ≤ 8 := by
 have h1 := audN_bound d.first p.txns d.s.store (resR p d.s)
 have h2 := (oO h.v.plan).2.2.2.1
 have h3 : nT p = p.txns.length := rfl
 unfold auditN;omega
theorem Good.len {p : Plan} {d : Dk} (h : Good p d) (hp : PlanI p) (l : List UInt8) : (lineS p d l).1.length ≤ 900 := by
 have e1 := errT_len (e := 1) (by omega) (by omega)
 have e3 := errT_len (e := 3) (by omega) (by omega)
 have hok : sOk.length = 2 := rfl
 unfold lineS
 split
 ·show (if overB p d.s = true then sOver else canT (canL p d.s)).length ≤ 900
  split
  ·show 4 ≤ 900;omega
  ·exact canT_len h.v
 split
 ·have := j1 (l := d.s.store) (by have := h.v.store;omega) h.i.store
  show (storeT d.s.store).length ≤ 900;omega
 split
 ·obtain ⟨_,_,h1,h2⟩ := h.rest hp
  have := ut h1 (by omega)
  show (digs (restN p d)).length ≤ 900;omega
 split
 ·show (if resE p d.s = 0 then digs (auditN p d) else errT (resE p d.s)).length ≤ 900
  split
  ·have := h.audit
   have := ua (n := auditN p d) (by unfold I64;omega)
   omega
  ·rcases v6 h.v with h1 | h1
   ·contradiction
   ·rw [h1];have := errT_len (e := 8) (by omega) (by omega);omega
 unfold splitD
 split
 ·rename_i w a b _
  unfold wordsS
  split;· show (errT 1).length ≤ 900;omega
  cases numS a with
  | none => show (errT 1).length ≤ 900;omega
  | some x =>
   cases numS b with
   | none => show (errT 1).length ≤ 900;omega
   | some y =>
    show (actS p d (idxW w) x y).1.length ≤ 900
    unfold actS
    split;· show (errT 1).length ≤ 900;omega
    split
    ·split
     ·show sOk.length ≤ 900;omega
     ·show (errT 3).length ≤ 900;omega
    split;· show (errT 1).length ≤ 900;omega
    split
    ·show sOk.length ≤ 900;omega
    ·have h1 := errno_do h.v ⟨idxW w,x,y⟩
     have := errT_len h1.1 (by omega)
     show (errT (doE p d.s ⟨idxW w,x,y⟩)).length ≤ 900
     omega
 ·show (errT 1).length ≤ 900;omega
end Go.Proofs.YtjgmbgfcffnanaaGreatDoor
