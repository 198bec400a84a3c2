/- The desk, without the program: lines, and scripts. No condition. The desk, without the program: what Go's library makes of words, lines and numerals. No condition. -/
import Derived.Lib.SplitLaws
import Derived.Lib.Join
import Derived.Lib.Strings
import Derived.Lib.AtoiTie
import Derived.Test.YtjgmbgfcffnanaaGreatDoorZ13
namespace Go.Proofs.YtjgmbgfcffnanaaGreatDoor
open Go.RowKit
def NL (s : List UInt8) : Prop := s = [] ∨ s.getLast? = some 10
theorem linesS_ne {s : List UInt8} (h : s ≠ []) : linesS s ≠ [] := by
 cases s with
 | nil => exact absurd rfl h
 | cons b r =>
  unfold linesS
  split
  ·simp
  ·split <;> simp
theorem NL.tail {b : UInt8} {r : List UInt8} (h : NL (b :: r)) : NL r := by
 rcases h with h | h
 ·cases h
 ·cases r with
  | nil => exact .inl rfl
  | cons c r => exact .inr (by rw [← h];simp [List.getLast?_cons_cons])
theorem vo {r : List UInt8} : ∀ {s : List UInt8},NL s → linesS (s ++ r) = linesS s ++ linesS r
 | [],_ => rfl
 | b :: s,h => by
  have ih := vo (r := r) h.tail
  show linesS (b :: (s ++ r)) = _
  rw [linesS,linesS]
  by_cases hb : b = 10
  ·rw [if_pos hb,if_pos hb,ih];rfl
  ·rw [if_neg hb,if_neg hb,ih]
   have hs : s ≠ [] := fun e => by
    subst e
    rcases h with h | h
    ·cases h
    ·simp at h;exact hb h
   have hne := linesS_ne hs
   cases e : linesS s with
   | nil => exact absurd e hne
   | cons x xs => rfl
theorem vm : ∀ {u : List UInt8},10 ∉ u → linesS (u ++ [10]) = [u]
 | [],_ => rfl
 | b :: u,h => by
  have hb : b ≠ 10 := fun e => h (e ▸ List.mem_cons_self)
  show linesS (b :: (u ++ [10])) = _
  rw [linesS,if_neg hb,vm fun hm => h (List.mem_cons_of_mem _ hm)]
theorem vC : ∀ (s : List UInt8),(linesS s).length ≤ s.length
 | [] => Nat.le_refl _
 | b :: r => by
  have ih := vC r
  unfold linesS
  split
  ·simp only [List.length_cons];omega
  ·split
   ·simp
   ·rename_i e;rw [e] at ih;simp only [List.length_cons] at ih ⊢;omega
theorem linesS_each : ∀ (s : List UInt8),∀ l ∈ linesS s,l.length ≤ s.length
 | [],l,h => by cases h
 | b :: r,l,h => by
  have ih := linesS_each r
  unfold linesS at h
  split at h
  ·rcases List.mem_cons.1 h with rfl | h
   ·simp
   ·have := ih l h;simp only [List.length_cons];omega
  ·split at h
   ·rcases List.mem_cons.1 h with rfl | h
    ·simp
    ·cases h
   ·rename_i x xs e
    rw [e] at ih
    rcases List.mem_cons.1 h with rfl | h
    ·have := ih x List.mem_cons_self;simp only [List.length_cons];omega
    ·have := ih l (List.mem_cons_of_mem _ h);simp only [List.length_cons];omega
theorem NL.snoc (u : List UInt8) : NL (u ++ [10]) := .inr (by simp)
theorem runQ_app (p : Plan) (a b : List (List UInt8)) (q : List UInt8 × Dk) : runQ p (a ++ b) q = runQ p b (runQ p a q) := List.foldl_append
theorem runQ_snoc (p : Plan) (a : List (List UInt8)) (l : List UInt8) (q : List UInt8 × Dk) : runQ p (a ++ [l]) q = stp p (runQ p a q) l := runQ_app p a [l] q
theorem runQ_good {p : Plan} (hp : PlanI p) : ∀ {ls : List (List UInt8)} {q : List UInt8 × Dk},Good p q.2 → Good p (runQ p ls q).2 ∧ (runQ p ls q).1.length ≤ q.1.length + 901 * ls.length
 | [],q,h => ⟨h,by show q.1.length ≤ _;omega⟩
 | l :: ls,q,h => by
  have h1 := h.line hp l
  have h2 := h.len hp l
  obtain ⟨h3,h4⟩ := runQ_good hp (ls := ls) (q := stp p q l) h1
  refine ⟨h3,Nat.le_trans h4 ?_⟩
  show (q.1 ++ ((lineS p q.2 l).1 ++ [10])).length + _ ≤ _
  simp only [List.length_append,List.length_cons,List.length_nil]
  omega
def atQ (p : Plan) (t : List UInt8) (f : Nat) : List UInt8 × Dk := runQ p (linesS (t.take f)) ([],dk0 p)
theorem atQ_good {p : Plan} (hc : checkPlan p = 0) (hp : PlanI p) (t : List UInt8) (f : Nat) : Good p (atQ p t f).2 ∧ (atQ p t f).1.length ≤ 901 * f := by
 obtain ⟨h1,h2⟩ := runQ_good hp (ls := linesS (t.take f)) (q := ([],dk0 p)) (Good.zero hc)
 refine ⟨h1,Nat.le_trans h2 ?_⟩
 have h3 := vC (t.take f)
 rw [List.length_take] at h3
 show 0 + _ ≤ _
 have : 901 * (linesS (t.take f)).length ≤ 901 * f := Nat.mul_le_mul_left _ (by omega)
 omega
theorem take_split {t : List UInt8} {f i : Nat} (h : f ≤ i) : t.take i = t.take f ++ (t.take i).drop f := by
 conv => lhs;rw [← List.take_append_drop f (t.take i)]
 rw [List.take_take,Nat.min_eq_left h]
theorem atQ_step {p : Plan} {t : List UInt8} {f i : Nat} (hf : f ≤ i) (hn : NL (t.take f)) (hu : 10 ∉ (t.take i).drop f) (hb : t[i]? = some 10) :
 atQ p t (i + 1) = stp p (atQ p t f) ((t.take i).drop f) ∧ NL (t.take (i + 1)) := by
 have h1 : t.take (i + 1) = t.take f ++ ((t.take i).drop f ++ [10]) := by
  rw [oM hb]
  conv => lhs;rw [take_split hf]
  rw [List.append_assoc]
 refine ⟨?_,?_⟩
 ·unfold atQ
  rw [h1,vo hn,vm hu,runQ_snoc]
 ·rw [oM hb];exact NL.snoc _
theorem atQ_end {p : Plan} {t : List UInt8} {f : Nat} (hf : f ≤ t.length) (hn : NL t) (hu : 10 ∉ t.drop f) : atQ p t f = runQ p (linesS t) ([],dk0 p) := by
 have : f = t.length := by
  rcases Nat.lt_or_ge f t.length with h | h
  ·exfalso
   rcases hn with rfl | hn
   ·simp at h
   ·refine hu ?_
    have h1 : (t.drop f).getLast? = some 10 := by
     rw [← hn,List.getLast?_drop,if_neg (by omega)]
    exact List.mem_of_getLast? h1
  ·omega
 subst this
 unfold atQ
 rw [List.take_length]
theorem count_take_le (t : List UInt8) (i : Nat) : (t.take i).count 10 ≤ cntS t := by
 unfold cntS
 conv => rhs;rw [← List.take_append_drop i t,List.count_append]
 omega
theorem count_next {t : List UInt8} {i : Nat} {b : UInt8} (hb : t[i]? = some b) : (t.take (i + 1)).count 10 = (t.take i).count 10 + if b = 10 then 1 else 0 := by
 rw [oM hb,List.count_append,List.count_singleton]
 congr 1
 by_cases h : b = 10 <;> simp [h]
theorem index_32 : ∀ s : List UInt8,(Lib.index s [32] = -1 ∧ 32 ∉ s) ∨ ∃ u r,s = u ++ 32 :: r ∧ 32 ∉ u ∧ Lib.index s [32] = u.length
 | [] => .inl ⟨rfl,by simp⟩
 | b :: l => by
  by_cases hb : b = 32
  ·subst hb
   exact .inr ⟨[],l,rfl,by simp,by simp [Lib.index]⟩
  ·have hp : ([32] : List UInt8).isPrefixOf (b :: l) = false := by
    simp [List.isPrefixOf]
    exact fun e => hb e.symm
   rcases index_32 l with ⟨h1,h2⟩ | ⟨u,r,h1,h2,h3⟩
   ·left
    refine ⟨by unfold Lib.index;rw [hp,h1];rfl,?_⟩
    intro hm
    rcases List.mem_cons.1 hm with e | hm
    ·exact hb e.symm
    ·exact h2 hm
   ·right
    refine ⟨b :: u,r,by rw [h1];rfl,?_,?_⟩
    ·intro hm
     rcases List.mem_cons.1 hm with e | hm
     ·exact hb e.symm
     ·exact h2 hm
    ·unfold Lib.index
     rw [hp,h3]
     have : ((u.length : Int) == -1) = false := by
      rw [beq_eq_false_iff_ne];omega
     rw [this]
     simp
theorem splitS_no {u : List UInt8} (h : 32 ∉ u) : splitS u = [u] := by
 induction u with
 | nil => rfl
 | cons b u ih =>
  have hb : b ≠ 32 := fun e => h (e ▸ List.mem_cons_self)
  rw [uF,if_neg hb,ih fun hm => h (List.mem_cons_of_mem _ hm)]
  rfl
theorem splitS_at {u : List UInt8} (r : List UInt8) (h : 32 ∉ u) : splitS (u ++ 32 :: r) = u :: splitS r := by
 induction u with
 | nil => show splitS (32 :: r) = _;rw [uF,if_pos rfl]
 | cons b u ih =>
  show splitS (b :: (u ++ 32 :: r)) = _
  have hb : b ≠ 32 := fun e => h (e ▸ List.mem_cons_self)
  rw [uF,if_neg hb,ih fun hm => h (List.mem_cons_of_mem _ hm)]
  rfl
theorem split_is : ∀ (n : Nat) (s : List UInt8),s.length ≤ n → Lib.splitK [32] 0 (s.count 32) s = splitS s := by
 intro n
 induction n with
 | zero =>
  intro s hs
  obtain rfl := List.eq_nil_of_length_eq_zero (Nat.le_zero.1 hs)
  rfl
 | succ n ih =>
  intro s hs
  rcases index_32 s with ⟨h1,h2⟩ | ⟨u,r,rfl,h2,h3⟩
  ·rw [List.count_eq_zero.2 h2,splitS_no h2];rfl
  ·have hc : (u ++ 32 :: r).count 32 = r.count 32 + 1 := by
    rw [List.count_append,List.count_eq_zero.2 h2,List.count_cons];simp
   rw [hc,splitS_at r h2]
   unfold Lib.splitK
   rw [h3]
   have : ((u.length : Int) == -1) = false := by
    rw [beq_eq_false_iff_ne];omega
   rw [this]
   simp only [Bool.false_eq_true,if_false,Int.toNat_natCast,Nat.add_zero,List.length_singleton]
   rw [List.take_left' rfl]
   have hd : (u ++ 32 :: r).drop (u.length + 1) = r := by
    rw [show u ++ 32 :: r = (u ++ [32]) ++ r by simp,List.drop_left' (by simp)]
   rw [hd,ih r (by simp at hs;omega)]
theorem joinS_is (sep : List UInt8) : ∀ l : List (List UInt8),Lib.join l sep = joinS sep l
 | [] => rfl
 | [x] => by rw [Lib.join_one];rfl
 | x :: y :: l => by
  rw [Lib.join_cons]
  have h := joinS_is sep (y :: l)
  rw [Lib.join_cons] at h
  show _ = x ++ sep ++ joinS sep (y :: l)
  rw [← h]
  unfold Lib.joinTail
  simp
theorem digitVal_k {k : Nat} (h : k < 10) : Lib.digitVal (UInt8.ofNat (48 + k)) = some k := by
 have : k = 0 ∨ k = 1 ∨ k = 2 ∨ k = 3 ∨ k = 4 ∨ k = 5 ∨ k = 6 ∨ k = 7 ∨ k = 8 ∨ k = 9 := by omega
 rcases this with rfl | rfl | rfl | rfl | rfl | rfl | rfl | rfl | rfl | rfl <;> decide +kernel
theorem decFrom_app : ∀ (a b : List UInt8) (acc n : Nat),Lib.decFrom acc a = some n → Lib.decFrom acc (a ++ b) = Lib.decFrom n b
 | [],b,acc,n,h => by
  have h : some acc = some n := h
  injection h with h
  subst h;rfl
 | c :: a,b,acc,n,h => by
  unfold Lib.decFrom at h
  show (match Lib.digitVal c with | some d => Lib.decFrom (acc * 10 + d) (a ++ b) | none => none) = _
  cases hd : Lib.digitVal c with
  | none => rw [hd] at h;cases h
  | some d => rw [hd] at h;exact decFrom_app a b _ _ h
theorem decFrom_dec (u : Nat) : Lib.decFrom 0 (Go.Lib.decDigits u) = some u := by
 induction u using Nat.strongRecOn with
 | _ u ih =>
  by_cases h : u < 10
  ·rw [uY h]
   show (match Lib.digitVal _ with | some d => Lib.decFrom (0 * 10 + d) [] | none => none) = _
   rw [digitVal_k h]
   show some (0 * 10 + u) = some u
   congr 1;omega
  ·rw [jU h,decFrom_app _ _ _ _ (ih (u / 10) (by omega))]
   show (match Lib.digitVal _ with | some d => Lib.decFrom (u / 10 * 10 + d) [] | none => none) = _
   rw [digitVal_k (by omega)]
   show some (u / 10 * 10 + u % 10) = some u
   congr 1;omega
theorem decNat_dec (u : Nat) : Lib.decNat (Go.Lib.decDigits u) = some u := by
 unfold Lib.decNat
 rw [if_neg,decFrom_dec]
 have := dec_ne u
 simpa using this
theorem dec_head (u : Nat) : ∀ b,(Go.Lib.decDigits u).head? = some b → 48 ≤ b.toNat ∧ b.toNat ≤ 57 := by
 induction u using Nat.strongRecOn with
 | _ u ih =>
  intro b hb
  by_cases h : u < 10
  ·rw [uY h] at hb
   simp only [List.head?_cons,Option.some.injEq] at hb
   subst hb
   have : u = 0 ∨ u = 1 ∨ u = 2 ∨ u = 3 ∨ u = 4 ∨ u = 5 ∨ u = 6 ∨ u = 7 ∨ u = 8 ∨ u = 9 := by omega
   rcases this with rfl | rfl | rfl | rfl | rfl | rfl | rfl | rfl | rfl | rfl <;> decide +kernel
  ·rw [jU h] at hb
   rw [List.head?_append] at hb
   cases e : (Go.Lib.decDigits (u / 10)).head? with
   | none => exact absurd (List.head?_eq_none_iff.1 e) (dec_ne _)
   | some c =>
    rw [e] at hb
    simp only [Option.some_or,Option.some.injEq] at hb
    subst hb
    exact ih (u / 10) (by omega) c e
theorem atoi_digs {n : Int} (h0 : -999999 ≤ n) (h1 : n ≤ 999999) : Lib.atoiAll (digs n) = .ok n := by
 have hl := digs_len7 h0 h1
 rw [Lib.atoiAll_short _ (by omega)]
 by_cases hn : n < 0
 ·have e : digs n = 45 :: Go.Lib.decDigits n.natAbs := by
   show (if n < 0 then _ else _) = _
   rw [if_pos hn]
  rw [e]
  show Lib.NumEnd.ofOption ((Lib.decNat (Go.Lib.decDigits n.natAbs)).map fun (m : Nat) => -(m : Int)) = _
  rw [decNat_dec]
  show Lib.NumEnd.ok (-(n.natAbs : Int)) = _
  congr 1;omega
 ·have e : digs n = Go.Lib.decDigits n.toNat := by
   show (if n < 0 then _ else _) = _
   rw [if_neg hn]
  rw [e]
  cases hd : Go.Lib.decDigits n.toNat with
  | nil => exact absurd hd (dec_ne _)
  | cons b r =>
   have hb := dec_head n.toNat b (by rw [hd];rfl)
   have k1 : (b == 45) = false := by
    rw [beq_eq_false_iff_ne];rintro rfl;exact absurd hb.1 (by decide)
   have k2 : (b == 43) = false := by
    rw [beq_eq_false_iff_ne];rintro rfl;exact absurd hb.1 (by decide)
   show Lib.NumEnd.ofOption (if (b == 45) = true then (Lib.decNat r).map fun (m : Nat) => -(m : Int) else if (b == 43) = true then (Lib.decNat r).map fun (m : Nat) => (m : Int) else (Lib.decNat (b :: r)).map fun (m : Nat) => (m : Int)) = _
   rw [k1,k2,← hd,decNat_dec]
   show Lib.NumEnd.ok ((n.toNat : Nat) : Int) = _
   congr 1
   omega
def atN (s : List UInt8) : Int := match Lib.atoiAll s with
 | .ok v => v
 | .range => Lib.atoiSat s
 | _ => 0
def atB (s : List UInt8) : Bool := match Lib.atoiAll s with
 | .ok _ => true
 | _ => false
theorem numS_is (s : List UInt8) : (atB s = true ∧ -1000000 < atN s ∧ atN s < 1000000 ∧ digs (atN s) = s) ∧ numS s = some (atN s) ∨ ¬ (atB s = true ∧ -1000000 < atN s ∧ atN s < 1000000 ∧ digs (atN s) = s) ∧ numS s = none := by
 by_cases h : atB s = true ∧ -1000000 < atN s ∧ atN s < 1000000 ∧ digs (atN s) = s
 ·refine .inl ⟨h,?_⟩
  obtain ⟨_,h1,h2,h3⟩ := h
  conv => lhs;rw [← h3]
  exact numS_digs (by omega) (by omega)
 ·refine .inr ⟨h,numS_none fun n h0 h1 e => h ?_⟩
  have h2 := atoi_digs h0 h1
  rw [← e] at h2
  have hN : atN s = n := by unfold atN;rw [h2]
  have hB : atB s = true := by unfold atB;rw [h2]
  exact ⟨hB,by omega,by omega,by rw [hN];exact e.symm⟩
theorem hasNL (s : List UInt8) : Lib.hasSuffix s [10] = decide (s.getLast? = some 10) := by
 unfold Lib.hasSuffix
 rcases List.eq_nil_or_concat s with rfl | ⟨u,b,rfl⟩
 ·rfl
 ·rw [List.concat_eq_append]
  have : List.isSuffixOf [10] (u ++ [b]) = (10 == b) := by
   simp [List.isSuffixOf,List.isPrefixOf]
  rw [this]
  by_cases hb : b = 10
  ·subst hb;simp
  ·have h1 : ((10 : UInt8) == b) = false := by
    rw [beq_eq_false_iff_ne];exact fun e => hb e.symm
   rw [h1];simp [hb]
theorem trimNL (u : List UInt8) : Lib.trimSuffix (u ++ [10]) [10] = u := by
 unfold Lib.trimSuffix
 rw [hasNL,if_pos (by simp)]
 simp
theorem indexNL : ∀ s : List UInt8,(Lib.indexByte s 10 = -1 ∧ 10 ∉ s) ∨ ∃ u r,s = u ++ 10 :: r ∧ 10 ∉ u ∧ Lib.indexByte s 10 = u.length
 | [] => .inl ⟨rfl,by simp⟩
 | b :: l => by
  by_cases hb : b = 10
  ·subst hb
   exact .inr ⟨[],l,rfl,by simp,by simp [Lib.indexByte]⟩
  ·have hp : (b == 10) = false := by rw [beq_eq_false_iff_ne];exact hb
   rcases indexNL l with ⟨h1,h2⟩ | ⟨u,r,h1,h2,h3⟩
   ·left
    refine ⟨by unfold Lib.indexByte;rw [hp,h1];rfl,?_⟩
    intro hm
    rcases List.mem_cons.1 hm with e | hm
    ·exact hb e.symm
    ·exact h2 hm
   ·right
    refine ⟨b :: u,r,by rw [h1];rfl,?_,?_⟩
    ·intro hm
     rcases List.mem_cons.1 hm with e | hm
     ·exact hb e.symm
     ·exact h2 hm
    ·unfold Lib.indexByte
     rw [hp,h3]
     have : ((u.length : Int) == -1) = false := by
      rw [beq_eq_false_iff_ne];omega
     rw [this]
     simp
theorem linesS_at {u : List UInt8} (r : List UInt8) (h : 10 ∉ u) : linesS (u ++ 10 :: r) = u :: linesS r := by
 rw [show u ++ 10 :: r = (u ++ [10]) ++ r by simp,vo (NL.snoc u),vm h]
 rfl
end Go.Proofs.YtjgmbgfcffnanaaGreatDoor
