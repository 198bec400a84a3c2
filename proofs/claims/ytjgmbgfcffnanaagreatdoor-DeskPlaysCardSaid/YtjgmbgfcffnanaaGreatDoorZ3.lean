/- Plain facts on memory, over any program: a slice that reads as a list of records ('Sl'), a row of the call's own ('Own'), maps with integer keys. No condition. -/
import Derived.WalkKit
import Derived.WalkSpells
import Derived.WalkLawsBesides
import Derived.Handy
import Derived.Maps.Own
import Derived.Lib.Hide
import Derived.Test.YtjgmbgfcffnanaaGreatDoorRows
import Derived.Deep.RegionHeld3
import Derived.Maps.AppendAt
import Derived.Deep.QuietTactic
import Derived.BigQuiet
import Derived.Recover
import Derived.Lib.AppendZeros
import Derived.Lib.AppendZerosOnto
set_option maxRecDepth 100000
set_option maxHeartbeats 4000000
namespace Go.Proofs.YtjgmbgfcffnanaaGreatDoor
open Go.RowKit
def I64 (x : Int) : Prop := -9223372036854775808 ≤ x ∧ x ≤ 9223372036854775807
theorem I64.wrap (x : Int) : I64 (wrap64 x) := by unfold I64 wrap64;omega
section
variable {α : Type} {w w' : World}
def Sl (k : Nat) (enc : α → List Value) (w : World) (A : Option Addr) (xs : List α) : Prop :=
 xs = [] ∨ ∃ b o,A = some ⟨b,o,none⟩ ∧ b < w.heap.size ∧ ∀ (i : Nat) (x : α),xs[i]? = some x → ∀ (j : Nat) (u : Value),(enc x)[j]? = some u → w.cell? ⟨b,o + i * k + j,none⟩ = some u
variable {k : Nat} {enc : α → List Value} {A : Option Addr} {xs : List α}
theorem Sl.nil (A : Option Addr) : Sl k enc w A [] := .inl rfl
theorem Sl.keep (h : Sl k enc w A xs) (hs : w.heap.size ≤ w'.heap.size) (hk : ∀ p : Addr,p.block < w.heap.size → w'.cell? p = w.cell? p) : Sl k enc w' A xs := by
 rcases h with h | ⟨b,o,hA,hb,hc⟩
 ·exact .inl h
 ·exact .inr ⟨b,o,hA,by omega,fun i x hi j u hj => (hk _ hb).trans (hc i x hi j u hj)⟩
theorem Sl.below (h : Sl k enc w A xs) (hb : Below w.heap.size w w') : Sl k enc w' A xs := h.keep hb.size fun _ hp => hb.cell hp
theorem Sl.alloc (h : Sl k enc w A xs) (o : Obj) : Sl k enc (w.alloc o) A xs := h.below ((Below.refl _ _).alloc (Nat.le_refl _) _)
theorem Sl.at_ (h : Sl k enc w A xs) {i : Nat} {x : α} (hi : xs[i]? = some x) :
 ∃ b o,A = some ⟨b,o,none⟩ ∧ b < w.heap.size ∧ ∀ (j : Nat) (u : Value),(enc x)[j]? = some u → w.cell? ⟨b,o + i * k + j,none⟩ = some u := by
 rcases h with rfl | ⟨b,o,hA,hb,hc⟩
 ·simp at hi
 ·exact ⟨b,o,hA,hb,hc i x hi⟩
def Rd (k : Nat) (enc : α → List Value) (w : World) (A : Option Addr) (n : Nat) (xs : List α) : Prop := xs.length = n ∧ Sl k enc w A xs
theorem Rd.below {n : Nat} (h : Rd k enc w A n xs) (hb : Below w.heap.size w w') : Rd k enc w' A n xs := ⟨h.1,h.2.below hb⟩
theorem Rd.alloc {n : Nat} (h : Rd k enc w A n xs) (o : Obj) : Rd k enc (w.alloc o) A n xs := ⟨h.1,h.2.alloc o⟩
theorem flat_at {k : Nat} {enc : α → List Value} (hk : ∀ x,(enc x).length = k) : ∀ (xs : List α) (i : Nat) (x : α),xs[i]? = some x → ∀ (j : Nat) (u : Value),(enc x)[j]? = some u → (xs.flatMap enc)[i * k + j]? = some u := by
 intro xs
 induction xs with
 | nil => intro i x h;simp at h
 | cons y ys ih =>
  intro i x hi j u hj
  rw [List.flatMap_cons]
  cases i with
  | zero =>
   simp at hi;subst hi
   have hl : j < (enc y).length := (List.getElem?_eq_some_iff.1 hj).1
   rw [Nat.zero_mul,Nat.zero_add,List.getElem?_append_left hl];exact hj
  | succ i =>
   have := ih i x (by simpa using hi) j u hj
   have h2 := hk y
   rw [List.getElem?_append_right (by rw [h2,Nat.succ_mul];omega),h2,Nat.succ_mul]
   rw [show i * k + k + j - k = i * k + j from by omega]
   exact this
theorem flat_length {k : Nat} {enc : α → List Value} (hk : ∀ x,(enc x).length = k) (xs : List α) : (xs.flatMap enc).length = xs.length * k := by
 induction xs with
 | nil => simp
 | cons y ys ih => rw [List.flatMap_cons,List.length_append,ih,hk,List.length_cons,Nat.succ_mul];omega
theorem Sl.of_own {base n c : Nat} {e : TypeId} (hk : ∀ x,(enc x).length = k) (h : w.ownsRow base e k (.slice A n c) xs.length (xs.flatMap enc)) : Sl k enc w A xs := by
 rcases h.2 with ⟨_,h0⟩ | ⟨g,cap,cur,hv,_,hg,_⟩
 ·exact .inl (List.eq_nil_of_length_eq_zero h0)
 ·injection hv with hA
  subst hA
  have hlt : g < w.heap.size := by
   rcases Nat.lt_or_ge g w.heap.size with hlt | hge
   ·exact hlt
   ·rw [Array.getElem?_eq_none hge] at hg;cases hg
  refine .inr ⟨g,0,rfl,hlt,fun i x hi j u hj => ?_⟩
  have := h.cells (g := g) rfl (i * k + j) u (flat_at hk xs i x hi j u hj)
  rw [Nat.zero_add]
  by_cases h0 : i * k + j = 0
  ·rw [h0] at this ⊢;simpa [Addr.add] using this
  ·rw [Addr.add,if_neg h0,Nat.zero_add] at this
   exact this
end
theorem Sl.of_new {α : Type} {k : Nat} {enc : α → List Value} (hk : ∀ x,(enc x).length = k) (w : World) (xs : List α) (t : TypeId) :
 Sl k enc (w.alloc (.cells (xs.flatMap enc).toArray t)) (some ⟨w.heap.size,0,none⟩) xs := by
 refine .inr ⟨w.heap.size,0,rfl,by simp,fun i x hi j u hj => ?_⟩
 have := flat_at hk xs i x hi j u hj
 rw [World.cell?_alloc_new,Nat.zero_add]
 simpa using this
theorem Rd.new {α : Type} {k : Nat} {enc : α → List Value} {w : World} {cs : Array Value} {t : TypeId} {b n : Nat} (xs : List α) (hk : ∀ x,(enc x).length = k) (hb : b = w.heap.size) (hn : xs.length = n) (hcs : cs = (xs.flatMap enc).toArray) :
 Rd k enc (w.alloc (.cells cs t)) (some ⟨b,0,none⟩) n xs := by subst hb hcs;exact ⟨hn,Sl.of_new hk w xs t⟩
theorem news_blk {w : World} {cs : List Value} {t : TypeId} {b : Nat} (hb : b = w.heap.size) : ∀ j u,cs[j]? = some u → (w.alloc (.cells cs.toArray t)).cell? ((⟨b,0,none⟩ : Addr).add j) = some u := by
 subst hb
 intro j u h
 have hadd : (⟨w.heap.size,0,none⟩ : Addr).add j = ⟨w.heap.size,j,none⟩ := by by_cases h0 : j = 0 <;> simp [Addr.add,h0]
 rw [hadd,World.cell?_alloc_new]
 simpa using h
def Own {α : Type} (E k : Nat) (enc : α → List Value) (w : World) (B : Nat) (v : Value) (xs : List α) : Prop := w.ownsRow B E k v xs.length (xs.flatMap enc)
section
variable {α : Type} {E k B : Nat} {enc : α → List Value} {w w' : World} {v : Value} {xs : List α}
theorem Own.out (h : Own E k enc w B v xs) : w.ownsRow B E k v xs.length (xs.flatMap enc) := h
theorem Own.nil : Own E k enc w B (.slice none 0 0) ([] : List α) := World.ownsRow_nil _ _ _ _
theorem Own.alloc (h : Own E k enc w B v xs) (o : Obj) : Own E k enc (w.alloc o) B v xs := World.ownsRow.alloc h o
theorem Own.push {x : α} {v' : Value} (h : w'.ownsRow B E k v' (xs.length + 1) (xs.flatMap enc ++ enc x)) : Own E k enc w' B v' (xs ++ [x]) := by
 unfold Own;rw [List.flatMap_append,List.length_append];simpa using h
theorem Own.more {ys : List α} {v' : Value} {m : Nat} (h : w'.ownsRow B E k v' (xs.length + m) (xs.flatMap enc ++ ys.flatMap enc)) (hm : ys.length = m) : Own E k enc w' B v' (xs ++ ys) := by
 subst hm;unfold Own;rw [List.flatMap_append,List.length_append];exact h
theorem Own.form (hk : ∀ x,(enc x).length = k) (h : Own E k enc w B v xs) : ∃ A c,v = .slice A xs.length c ∧ xs.length ≤ c ∧ c ≤ maxLen ∧ Rd k enc w A xs.length xs := by
 rcases h.2 with ⟨rfl,h0⟩ | ⟨g,cap,cur,rfl,h1,h2,h3,h4,h5,h6⟩
 ·refine ⟨none,0,by rw [h0],by omega,by simp [maxLen],rfl,?_⟩
  rw [List.eq_nil_of_length_eq_zero h0];exact Sl.nil _
 ·exact ⟨some ⟨g,0,none⟩,cap,rfl,h3,h4,rfl,Sl.of_own hk (base := B) (e := E) h⟩
theorem Own.base {B' : Nat} (h : Own E k enc w B v xs) (hB : B' ≤ B) : Own E k enc w B' v xs := by
 refine ⟨h.1,?_⟩
 rcases h.2 with h0 | ⟨g,cap,cur,h1,h2,h3⟩
 ·exact .inl h0
 ·exact .inr ⟨g,cap,cur,h1,Nat.le_trans hB h2,h3⟩
theorem Own.lt (h : Own E k enc w B v xs) : ∀ g,v.ownBlock = some g → B ≤ g ∧ g < w.heap.size := World.ownsRow.lt h
theorem Own.frame {a : World} (h : Own E k enc w B v xs) (hb : Below a.heap.size a w) (hB : a.heap.size ≤ B) (hg : w.grownBy w' v.ownBlock) : Below a.heap.size a w' :=
 Below.grown hb hg hb.size (fun g hv => Nat.le_trans hB (h.lt g hv).1)
end
theorem Bel.step {a w w' : World} (h : Below a.heap.size a w) (hb : Below w.heap.size w w') : Below a.heap.size a w' := h.trans (hb.mono h.size)
theorem Bel.alloc {a w : World} (h : Below a.heap.size a w) (o : Obj) : Below a.heap.size a (w.alloc o) := Below.alloc h h.size o
theorem Rg.step {a w w' : World} {R : Prop} (h : Below a.heap.size a w ∧ R) (hb : Below w.heap.size w w') : Below a.heap.size a w' := h.1.trans (hb.mono h.1.size)
theorem Bel.drewN {a w : World} (h : Below a.heap.size a w) (n : Nat) : Below a.heap.size a (w.drewN n) := ⟨h.os,h.tape,h.output,h.size,h.block⟩
theorem bcell {B : Nat} {w w' : World} (hb : Below B w w') : (∀ b o,b < B → w'.cell? ⟨b,o,none⟩ = w.cell? ⟨b,o,none⟩) ∧ (∀ b o,b < B → w'.frozen? ⟨b,o,none⟩ = w.frozen? ⟨b,o,none⟩) :=
 ⟨fun b o h => hb.cell (p := ⟨b,o,none⟩) h,fun b o h => hb.frozen (p := ⟨b,o,none⟩) h⟩
theorem uz {P : Program} {K : TypeId} {kd : IntKind} (hk : P.underlying K = some (.int kd)) (b : Bool) (w : World) (k : Int) :
 (Instr.checkKey b 10000 K (.int kd k)).run P w = .ok () w := by
 have h : ∀ n,(Instr.checkKey b (n + 1) K (.int kd k)).run P w = .ok () w := fun n => by simp [Instr.checkKey,run_underlying hk]
 exact h 9999
theorem ya {P : Program} {T K E : TypeId} {kd : IntKind} (hu : P.underlying T = some (.map K E)) (hk : P.underlying K = some (.int kd)) (w : World) (es : Array MapEntry) (clock : Nat) (k : Int) (v : Value)
 (hnew : Instr.findNow (.int kd) (.int kd k) es.toList 0 = some none) :
 (Instr.mapUpdate T (.map (some w.heap.size)) (.int kd k) v).run P (w.alloc (.map es clock)) = .ok () (w.alloc (.map (es.push { key := .int kd k,val := v,born := clock }) (clock + 1))) := by
 have h2 : (Instr.findKey K (.int kd k) es.toList).run P (w.alloc (.map es clock)) = .ok none (w.alloc (.map es clock)) := by
  simp [Instr.findKey,run_underlying hk,hnew]
 have hb : (w.alloc (.map es clock)).heap[w.heap.size]? = some (.map es clock) := heap_alloc_new w _
 have h3 : ∀ o',(w.alloc (.map es clock)).heap.setIfInBounds w.heap.size o' = w.heap.push o' := fun o' => by
  have h4 : (w.alloc (.map es clock)).heap = w.heap.push (.map es clock) := rfl
  rw [h4]
  apply Array.ext_getElem?
  intro i
  simp only [Array.getElem?_setIfInBounds,Array.getElem?_push,Array.size_push]
  by_cases hi : w.heap.size = i
  ·subst hi;simp
  ·have : ¬ i = w.heap.size := fun h => hi h.symm
   simp [hi,this]
 simp [Instr.mapUpdate,run_underlying hu,uz hk,h2,MapKept.run_getObj_map hb,MapKept.run_setObj_map _ hb,h3]
 rfl
theorem yD {P : Program} {T K E : TypeId} {kd : IntKind} (hu : P.underlying T = some (.map K E)) (hk : P.underlying K = some (.int kd)) (w : World) (r : Nat) (es : Array MapEntry) (clock : Nat) (k : Int)
 (hb : w.heap[r]? = some (.map es clock)) (i : Nat) (v : Value)
 (hf : Instr.findNow (.int kd) (.int kd k) es.toList 0 = some (some (i,v))) :
 (Instr.lookup T (.map (some r)) (.int kd k) true).run P w = .ok (.tuple #[v,.bool true]) w := by
 have h2 : (Instr.findKey K (.int kd k) es.toList).run P w = .ok (some (i,v)) w := by
  simp [Instr.findKey,run_underlying hk,hf]
 simp [Instr.lookup,run_underlying hu,uz hk,h2,MapKept.run_getObj_map hb]
theorem run_lookup_none {P : Program} {T K E : TypeId} {kd : IntKind} (hu : P.underlying T = some (.map K E)) (hk : P.underlying K = some (.int kd)) (w : World) (r : Nat) (es : Array MapEntry) (clock : Nat) (k : Int) (z : Value)
 (hz : (zeroValue E).run P w = .ok z w) (hb : w.heap[r]? = some (.map es clock))
 (hf : Instr.findNow (.int kd) (.int kd k) es.toList 0 = some none) :
 (Instr.lookup T (.map (some r)) (.int kd k) true).run P w = .ok (.tuple #[z,.bool false]) w := by
 have h2 : (Instr.findKey K (.int kd k) es.toList).run P w = .ok none w := by
  simp [Instr.findKey,run_underlying hk,hf]
 simp [Instr.lookup,run_underlying hu,uz hk,h2,MapKept.run_getObj_map hb,hz]
structure Operand where
 kind : Int
 n : Int
deriving DecidableEq
structure Guard where
 kind : Int
 a : Operand
 b : Operand
deriving DecidableEq
structure SetT where
 key : Int
 op : Int
 a : Operand
 b : Operand
deriving DecidableEq
structure Txn where
 reads : List Int
 guards : List Guard
 sets : List SetT
deriving DecidableEq
structure Res where
 done : Bool
 vals : List Int
deriving DecidableEq
def encI (x : Int) : List Value := [.int .i64 x]
def checkOp (k n r : Int) : Int :=
 if r < 0 ∨ 4 < r then 3 else if k = 1 then 0 else if k = 2 then (if n < 0 ∨ r ≤ n then 3 else 0) else 4
def valueOf (k n : Int) (xs : List Int) : Int := if k = 1 then n else xs.getD n.toNat 0
def valueN (k n : Int) (xs : List Int) : Int := if checkOp k n xs.length = 0 then valueOf k n xs else 0
def reckonN (op a b : Int) : Int :=
 if op = 1 then a else if op = 2 then wrap64 (a + b) else if op = 3 then wrap64 (a - b) else if op = 4 then wrap64 (a * b) else if op = 5 then min a b else if op = 6 then max a b else 0
def reckonE (op : Int) : Int := if 1 ≤ op ∧ op ≤ 6 then 0 else 4
def holdsB (k a b : Int) : Bool :=
 if k = 1 then a == b else if k = 2 then a != b else if k = 3 then decide (a < b) else if k = 4 then decide (a ≤ b) else false
def holdsE (k : Int) : Int := if 1 ≤ k ∧ k ≤ 4 then 0 else 4
theorem je {k n r : Int} (h : checkOp k n r = 0) : 0 ≤ r ∧ r ≤ 4 ∧ (k = 1 ∨ k = 2 ∧ 0 ≤ n ∧ n < r) := by
 unfold checkOp at h
 by_cases h1 : r < 0 ∨ 4 < r
 ·rw [if_pos h1] at h;cases h
 ·rw [if_neg h1] at h
  by_cases h2 : k = 1
  ·exact ⟨by omega,by omega,.inl h2⟩
  ·rw [if_neg h2] at h
   by_cases h3 : k = 2
   ·rw [if_pos h3] at h
    by_cases h4 : n < 0 ∨ r ≤ n
    ·rw [if_pos h4] at h;cases h
    ·exact ⟨by omega,by omega,.inr ⟨h3,by omega,by omega⟩⟩
   ·rw [if_neg h3] at h;cases h
def encG (g : Guard) : List Value := [.int .i64 g.kind,.int .i64 g.a.kind,.int .i64 g.a.n,.int .i64 g.b.kind,.int .i64 g.b.n]
def encS (s : SetT) : List Value := [.int .i64 s.key,.int .i64 s.op,.int .i64 s.a.kind,.int .i64 s.a.n,.int .i64 s.b.kind,.int .i64 s.b.n]
theorem oy (x : Int) : (encI x).length = 1 := rfl
def keysOf (t : Txn) : List Int := t.sets.map (·.key)
def isKeyB (k : Int) : Bool := decide (0 ≤ k) && decide (k ≤ 7)
def rising : List Int → Bool
 | a :: b :: l => decide (a < b) && rising (b :: l)
 | _ => true
def fe : List Int → Int
 | [] => 0
 | e :: l => if e = 0 then fe l else e
def gErrs (n : Int) (g : Guard) : List Int := [holdsE g.kind,checkOp g.a.kind g.a.n n,checkOp g.b.kind g.b.n n]
def sErrs (n : Int) (s : SetT) : List Int := [reckonE s.op,checkOp s.a.kind s.a.n n,checkOp s.b.kind s.b.n n]
def sizesOk (t : Txn) : Prop := t.reads.length ≤ 4 ∧ t.guards.length ≤ 2 ∧ 0 < t.sets.length ∧ t.sets.length ≤ 3
instance (t : Txn) : Decidable (sizesOk t) := by unfold sizesOk;infer_instance
def partErrs (t : Txn) : List Int := t.guards.flatMap (gErrs t.reads.length) ++ t.sets.flatMap (sErrs t.reads.length)
def checkTxn (t : Txn) : Int :=
 if sizesOk t then
  if (t.reads ++ keysOf t).all isKeyB then
   if rising t.reads && rising (keysOf t) then fe (partErrs t) else 1
  else 3
 else 2
theorem ui (a b : List Int) : fe (a ++ b) = if fe a = 0 then fe b else fe a := by
 induction a with
 | nil => simp [fe]
 | cons x l ih =>
  by_cases h : x = 0
  ·simp [fe,h,ih]
  ·simp [fe,h]
theorem fe_zero {l : List Int} : fe l = 0 ↔ ∀ x ∈ l,x = 0 := by
 induction l with
 | nil => simp [fe]
 | cons x l ih =>
  by_cases h : x = 0
  ·simp [fe,h,ih]
  ·simp [fe,h]
def TxnAt (w : World) (ra : Option Addr) (nr : Nat) (ga : Option Addr) (ng : Nat) (sa : Option Addr) (ns : Nat) (t : Txn) : Prop :=
 Rd 1 encI w ra nr t.reads ∧ Rd 5 encG w ga ng t.guards ∧ Rd 6 encS w sa ns t.sets ∧ nr ≤ 9223372036854775807 ∧ ng ≤ 9223372036854775807 ∧ ns * 48 ≤ 140737488351232
section
variable {w w' : World} {ra : Option Addr} {nr : Nat} {ga : Option Addr} {ng : Nat} {sa : Option Addr} {ns : Nat} {t : Txn}
theorem TxnAt.alloc (h : TxnAt w ra nr ga ng sa ns t) (o : Obj) : TxnAt (w.alloc o) ra nr ga ng sa ns t := ⟨h.1.alloc o,h.2.1.alloc o,h.2.2.1.alloc o,h.2.2.2⟩
end
theorem retI {a b : Int} (h : a = b) : Ending.returned (.int .i64 a) = .returned (.int .i64 b) := by rw [h]
theorem retB {a b : Bool} (h : a = b) : Ending.returned (.bool a) = .returned (.bool b) := by rw [h]
theorem retII {a b c d : Int} (h : a = b) (h' : c = d) : Ending.returned (.tuple #[.int .i64 a,.int .i64 c]) = .returned (.tuple #[.int .i64 b,.int .i64 d]) := by rw [h,h']
theorem retBI {a b : Bool} {c d : Int} (h : a = b) (h' : c = d) : Ending.returned (.tuple #[.bool a,.int .i64 c]) = .returned (.tuple #[.bool b,.int .i64 d]) := by rw [h,h']
theorem yt (k n r : Int) (w : World) :
 Calls Tryz.prog 152 #[.agg #[.int .i64 k,.int .i64 n],.int .i64 r] w fun e w' => e = .returned (.int .i64 (checkOp k n r)) ∧ Below w.heap.size w w' := by
 have hb : Below w.heap.size w (w.alloc (.cells #[.int .i64 k,.int .i64 n] 81)) := (Below.refl _ _).alloc (Nat.le_refl _) _
 go_enter Tryz.func152,Tryz.ntmps152
 go_wp2
 all_goals
  go_ret
  refine ⟨retI ?_,hb⟩
  clear hb
  try simp only [beq_iff_eq,bne_iff_ne,beq_eq_false_iff_ne,bne_eq_false_iff_eq,ne_eq] at *
  unfold checkOp
  repeat' split
  all_goals omega
theorem ref_CheckOperand (k n r : Int) (w : World) :
 Calls Tryz.prog 172 #[.agg #[.int .i64 k,.int .i64 n],.int .i64 r] w fun e w' => e = .returned (.int .i64 (checkOp k n r)) ∧ Below w.heap.size w w' := by
 go_enter Tryz.func172,Tryz.ntmps172
 go_wp2
 all_goals
  go_ret
  refine ⟨retI ?_,(Below.refl _ _).alloc (Nat.le_refl _) _⟩
  try simp only [bne_iff_ne,bne_eq_false_iff_eq,ne_eq,wrap64,Bool.not_eq_true',Bool.not_eq_false',decide_eq_true_eq,decide_eq_false_iff_not] at *
  unfold checkOp
  repeat' split
  all_goals omega
theorem qe (k a b : Int) (w : World) :
 Calls Tryz.prog 128 #[.int .i64 k,.int .i64 a,.int .i64 b] w fun e w' => e = .returned (.tuple #[.bool (holdsB k a b),.int .i64 (holdsE k)]) ∧ w = w' := by
 go_enter Tryz.func128,Tryz.ntmps128
 go_wp2
 all_goals
  go_ret2
  refine ⟨retBI ?_ ?_,rfl⟩
  all_goals try simp only [beq_iff_eq,beq_eq_false_iff_ne,ne_eq] at *
  ·unfold holdsB
   simp_all
  ·unfold holdsE
   repeat' split
   all_goals omega
theorem ref_HoldsOf (k a b : Int) (w : World) :
 Calls Tryz.prog 142 #[.int .i64 k,.int .i64 a,.int .i64 b] w fun e w' => e = .returned (.tuple #[.bool (holdsB k a b),.int .i64 (holdsE k)]) ∧ w = w' := by
 go_enter Tryz.func142,Tryz.ntmps142
 go_wp2
 all_goals
  go_ret2
  refine ⟨retBI ?_ ?_,rfl⟩
  all_goals try simp only [beq_iff_eq,beq_eq_false_iff_ne,ne_eq] at *
  ·unfold holdsB
   simp_all
  ·unfold holdsE
   repeat' split
   all_goals omega
def opsEntries : Array MapEntry := #[⟨.int .i64 1,.func (.func 180) #[] #[],0⟩,⟨.int .i64 2,.func (.func 181) #[] #[],1⟩,⟨.int .i64 3,.func (.func 182) #[] #[],2⟩,⟨.int .i64 4,.func (.func 183) #[] #[],3⟩,⟨.int .i64 5,.func (.func 184) #[] #[],4⟩,⟨.int .i64 6,.func (.func 185) #[] #[],5⟩]
theorem opsEntries_eq : #[⟨.int .i64 1,.func (.func 180) #[] #[],0⟩,⟨.int .i64 2,.func (.func 181) #[] #[],1⟩,⟨.int .i64 3,.func (.func 182) #[] #[],2⟩,⟨.int .i64 4,.func (.func 183) #[] #[],3⟩,⟨.int .i64 5,.func (.func 184) #[] #[],4⟩,⟨.int .i64 6,.func (.func 185) #[] #[],5⟩] = opsEntries := rfl
theorem q9 (w : World) :
 Calls Tryz.prog 163 #[] w fun e w' => e = .returned (.map (some w.heap.size)) ∧ w.alloc (.map opsEntries 6) = w' := by
 have hmm := @run_makeMap Tryz.prog
 have h1 := ya Tryz.underlying237 Tryz.underlying3 w #[] 0 1 (.func (.func 180) #[] #[]) rfl
 have h2 := ya Tryz.underlying237 Tryz.underlying3 w #[⟨.int .i64 1,.func (.func 180) #[] #[],0⟩] 1 2 (.func (.func 181) #[] #[]) rfl
 have h3 := ya Tryz.underlying237 Tryz.underlying3 w #[⟨.int .i64 1,.func (.func 180) #[] #[],0⟩,⟨.int .i64 2,.func (.func 181) #[] #[],1⟩] 2 3 (.func (.func 182) #[] #[]) rfl
 have h4 := ya Tryz.underlying237 Tryz.underlying3 w #[⟨.int .i64 1,.func (.func 180) #[] #[],0⟩,⟨.int .i64 2,.func (.func 181) #[] #[],1⟩,⟨.int .i64 3,.func (.func 182) #[] #[],2⟩] 3 4 (.func (.func 183) #[] #[]) rfl
 have h5 := ya Tryz.underlying237 Tryz.underlying3 w #[⟨.int .i64 1,.func (.func 180) #[] #[],0⟩,⟨.int .i64 2,.func (.func 181) #[] #[],1⟩,⟨.int .i64 3,.func (.func 182) #[] #[],2⟩,⟨.int .i64 4,.func (.func 183) #[] #[],3⟩] 4 5 (.func (.func 184) #[] #[]) rfl
 have h6 := ya Tryz.underlying237 Tryz.underlying3 w #[⟨.int .i64 1,.func (.func 180) #[] #[],0⟩,⟨.int .i64 2,.func (.func 181) #[] #[],1⟩,⟨.int .i64 3,.func (.func 182) #[] #[],2⟩,⟨.int .i64 4,.func (.func 183) #[] #[],3⟩,⟨.int .i64 5,.func (.func 184) #[] #[],4⟩] 5 6 (.func (.func 185) #[] #[]) rfl
 simp only [List.push_toArray,List.cons_append,List.nil_append,Nat.reduceAdd,Nat.zero_add,opsEntries_eq] at h1 h2 h3 h4 h5 h6
 go_enter Tryz.func163,Tryz.ntmps163
 go_wp2
 go_ret
 exact ⟨rfl,rfl⟩
theorem find_miss (op : Int) (h : ¬ (1 ≤ op ∧ op ≤ 6)) : Instr.findNow (.int .i64) (.int .i64 op) opsEntries.toList 0 = some none := by
 have h1 : (op == 1) = false := by simp;omega
 have h2 : (op == 2) = false := by simp;omega
 have h3 : (op == 3) = false := by simp;omega
 have h4 : (op == 4) = false := by simp;omega
 have h5 : (op == 5) = false := by simp;omega
 have h6 : (op == 6) = false := by simp;omega
 simp [opsEntries,Instr.findNow,Instr.sameNow,h1,h2,h3,h4,h5,h6]
theorem reckonE_out {op : Int} (h : ¬ (1 ≤ op ∧ op ≤ 6)) : reckonE op = 4 := if_neg h
theorem reckonN_out {op : Int} (a b : Int) (h : ¬ (1 ≤ op ∧ op ≤ 6)) : reckonN op a b = 0 := by
 unfold reckonN
 rw [if_neg (by omega),if_neg (by omega),if_neg (by omega),if_neg (by omega),if_neg (by omega),if_neg (by omega)]
theorem min_l {a b : Int} (h : a ≤ b) : min a b = a := by omega
theorem min_r {a b : Int} (h : b < a) : min a b = b := by omega
theorem max_l {a b : Int} (h : b ≤ a) : max a b = a := by omega
theorem max_r {a b : Int} (h : a < b) : max a b = b := by omega
theorem jS (op a b : Int) (w : World) :
 Calls Tryz.prog 129 #[.int .i64 op,.int .i64 a,.int .i64 b] w fun e w' => e = .returned (.tuple #[.int .i64 (reckonN op a b),.int .i64 (reckonE op)]) ∧ Below w.heap.size w w' := by
 have hb : Below w.heap.size w (w.alloc (.map opsEntries 6)) := (Below.refl _ _).alloc (Nat.le_refl _) _
 by_cases h : 1 ≤ op ∧ op ≤ 6
 ·have hcase : op = 1 ∨ op = 2 ∨ op = 3 ∨ op = 4 ∨ op = 5 ∨ op = 6 := by omega
  clear h
  rcases hcase with rfl | rfl | rfl | rfl | rfl | rfl
  ·have hl := yD Tryz.underlying237 Tryz.underlying3 (w.alloc (.map opsEntries 6)) w.heap.size opsEntries 6 1 (heap_alloc_new w _) 0 (.func (.func 180) #[] #[]) rfl
   go_enter Tryz.func129,Tryz.ntmps129
   go_wp2_with (first | (go_at_call 163;refine (q9 _).mono ?_;rintro e w' ⟨rfl,rfl⟩) | go_in)
   all_goals
    go_ret2
    exact ⟨retII rfl rfl,hb⟩
  ·have hl := yD Tryz.underlying237 Tryz.underlying3 (w.alloc (.map opsEntries 6)) w.heap.size opsEntries 6 2 (heap_alloc_new w _) 1 (.func (.func 181) #[] #[]) rfl
   go_enter Tryz.func129,Tryz.ntmps129
   go_wp2_with (first | (go_at_call 163;refine (q9 _).mono ?_;rintro e w' ⟨rfl,rfl⟩) | go_in)
   all_goals
    go_ret2
    exact ⟨retII rfl rfl,hb⟩
  ·have hl := yD Tryz.underlying237 Tryz.underlying3 (w.alloc (.map opsEntries 6)) w.heap.size opsEntries 6 3 (heap_alloc_new w _) 2 (.func (.func 182) #[] #[]) rfl
   go_enter Tryz.func129,Tryz.ntmps129
   go_wp2_with (first | (go_at_call 163;refine (q9 _).mono ?_;rintro e w' ⟨rfl,rfl⟩) | go_in)
   all_goals
    go_ret2
    exact ⟨retII rfl rfl,hb⟩
  ·have hl := yD Tryz.underlying237 Tryz.underlying3 (w.alloc (.map opsEntries 6)) w.heap.size opsEntries 6 4 (heap_alloc_new w _) 3 (.func (.func 183) #[] #[]) rfl
   go_enter Tryz.func129,Tryz.ntmps129
   go_wp2_with (first | (go_at_call 163;refine (q9 _).mono ?_;rintro e w' ⟨rfl,rfl⟩) | go_in)
   all_goals
    go_ret2
    exact ⟨retII rfl rfl,hb⟩
  ·have hl := yD Tryz.underlying237 Tryz.underlying3 (w.alloc (.map opsEntries 6)) w.heap.size opsEntries 6 5 (heap_alloc_new w _) 4 (.func (.func 184) #[] #[]) rfl
   rcases Int.lt_or_le b a with hlt | hle
   all_goals
    go_enter Tryz.func129,Tryz.ntmps129
    go_wp2_with (first | (go_at_call 163;refine (q9 _).mono ?_;rintro e w' ⟨rfl,rfl⟩) | go_in)
    all_goals
     go_ret2
     exact ⟨retII (by first | exact (min_l ‹_›).symm | exact (min_r ‹_›).symm) rfl,hb⟩
  ·have hl := yD Tryz.underlying237 Tryz.underlying3 (w.alloc (.map opsEntries 6)) w.heap.size opsEntries 6 6 (heap_alloc_new w _) 5 (.func (.func 185) #[] #[]) rfl
   rcases Int.lt_or_le a b with hlt | hle
   all_goals
    go_enter Tryz.func129,Tryz.ntmps129
    go_wp2_with (first | (go_at_call 163;refine (q9 _).mono ?_;rintro e w' ⟨rfl,rfl⟩) | go_in)
    all_goals
     go_ret2
     exact ⟨retII (by first | exact (max_l ‹_›).symm | exact (max_r ‹_›).symm) rfl,hb⟩
 ·have hl := run_lookup_none Tryz.underlying237 Tryz.underlying3 (w.alloc (.map opsEntries 6)) w.heap.size opsEntries 6 op .nilFunc (by kernel_rfl) (heap_alloc_new w _) (find_miss op h)
  have h1 := Lib.hid (reckonE_out h)
  have h2 := Lib.hid (reckonN_out a b h)
  clear h
  go_enter Tryz.func129,Tryz.ntmps129
  go_wp2_with (first | (go_at_call 163;refine (q9 _).mono ?_;rintro e w' ⟨rfl,rfl⟩) | go_in)
  go_ret2
  exact ⟨retII h2.out.symm h1.out.symm,hb⟩
theorem ref_ReckonOf (op a b : Int) (w : World) :
 Calls Tryz.prog 144 #[.int .i64 op,.int .i64 a,.int .i64 b] w fun e w' => e = .returned (.tuple #[.int .i64 (reckonN op a b),.int .i64 (reckonE op)]) ∧ w = w' := by
 go_enter Tryz.func144,Tryz.ntmps144
 go_wp2
 all_goals
  go_ret2
  refine ⟨retII ?_ ?_,rfl⟩
  all_goals try simp only [beq_iff_eq,beq_eq_false_iff_ne,ne_eq] at *
  ·unfold reckonN
   repeat' split
   all_goals first | rfl | omega
  ·unfold reckonE
   repeat' split
   all_goals omega
theorem Sl.int {w : World} {A : Option Addr} {xs : List Int} (h : Sl 1 encI w A xs) {i : Nat} (hi : i < xs.length) :
 ∃ b o x,A = some ⟨b,o,none⟩ ∧ b < w.heap.size ∧ Hid (xs[i]? = some x) ∧ w.cell? ⟨b,o + i,none⟩ = some (.int .i64 x) := by
 have hx : xs[i]? = some xs[i] := List.getElem?_eq_getElem hi
 obtain ⟨b,o,hA,hb,hc⟩ := h.at_ hx
 refine ⟨b,o,xs[i],hA,hb,hx,?_⟩
 have := hc 0 _ rfl
 simpa using this
theorem getD_of {α : Type} {xs : List α} {i : Nat} {x d : α} (h : xs[i]? = some x) : xs.getD i d = x := by rw [List.getD_eq_getElem?_getD,h];rfl
theorem qn {w w1 : World} {o : Obj} (h : Below (w.alloc o).heap.size (w.alloc o) w1) : Below w.heap.size w w1 :=
 ((Below.refl _ _).alloc (Nat.le_refl _) _).trans (h.mono (by simp))
theorem vals_Value (k n : Int) (A : Option Addr) (len c : Nat) (xs : List Int) (w : World) (hl : len ≤ 9223372036854775807) (hs : Rd 1 encI w A len xs) :
 Calls Tryz.prog 127 #[.agg #[.int .i64 k,.int .i64 n],.slice A len c] w fun e w' => e = .returned (.tuple #[.int .i64 (valueN k n xs),.int .i64 (checkOp k n len)]) ∧ Below w.heap.size w w' := by
 obtain ⟨hlen,hs⟩ := hs
 subst hlen
 by_cases h0 : checkOp k n xs.length = 0
 ·obtain ⟨_,_,hk⟩ := je h0
  have he : (checkOp k n xs.length != 0) = false := by simp [h0]
  rcases hk with rfl | ⟨rfl,h1,h2⟩
  ·have hv := Lib.hid (show valueN 1 n xs = n by simp [valueN,h0,valueOf])
   have hz := Lib.hid h0
   clear h0
   go_enter Tryz.func127,Tryz.ntmps127
   go_wp2_with (go_at_call 152;refine (yt _ _ _ _).mono ?_;rintro e w1 ⟨rfl,hb1⟩;obtain ⟨hc1,hf1⟩ := bcell hb1)
   go_ret2
   exact ⟨retII hv.out.symm hz.out.symm,qn hb1⟩
  ·obtain ⟨m,rfl⟩ := Int.eq_ofNat_of_zero_le h1
   have hm : m < xs.length := by omega
   obtain ⟨b,o,x,rfl,hb,hx,hc⟩ := hs.int hm
   have hv := Lib.hid (show valueN 2 m xs = x by have := getD_of (d := 0) hx.out;simp only [valueN,h0,valueOf,if_true,Int.toNat_natCast];exact this)
   have hz := Lib.hid h0
   clear h0
   go_enter Tryz.func127,Tryz.ntmps127
   go_wp2_with (go_at_call 152;refine (yt _ _ _ _).mono ?_;rintro e w1 ⟨rfl,hb1⟩;obtain ⟨hc1,hf1⟩ := bcell hb1)
   go_ret2
   exact ⟨retII hv.out.symm hz.out.symm,qn hb1⟩
 ·have he : (checkOp k n xs.length != 0) = true := by simp [h0]
  have hv := Lib.hid (show valueN k n xs = 0 by simp [valueN,h0])
  clear h0
  go_enter Tryz.func127,Tryz.ntmps127
  go_wp2_with (go_at_call 152;refine (yt _ _ _ _).mono ?_;rintro e w1 ⟨rfl,hb1⟩)
  go_ret2
  exact ⟨retII hv.out.symm rfl,qn hb1⟩
theorem qk (k n : Int) (A : Option Addr) (len c : Nat) (xs : List Int) (w : World) (hl : len ≤ 9223372036854775807) (hs : Rd 1 encI w A len xs) (h0 : checkOp k n len = 0) :
 Calls Tryz.prog 143 #[.agg #[.int .i64 k,.int .i64 n],.slice A len c] w fun e w' => e = .returned (.int .i64 (valueOf k n xs)) ∧ Below w.heap.size w w' := by
 obtain ⟨hlen,hs⟩ := hs
 subst hlen
 obtain ⟨_,_,hk⟩ := je h0
 clear h0
 rcases hk with rfl | ⟨rfl,h1,h2⟩
 ·go_enter Tryz.func143,Tryz.ntmps143
  go_wp2
  go_ret
  exact ⟨rfl,(Below.refl _ _).alloc (Nat.le_refl _) _⟩
 ·obtain ⟨m,rfl⟩ := Int.eq_ofNat_of_zero_le h1
  have hm : m < xs.length := by omega
  obtain ⟨b,o,x,rfl,hb,hx,hc⟩ := hs.int hm
  have hv := Lib.hid (show valueOf 2 m xs = x by have := getD_of (d := 0) hx.out;simp only [valueOf,Int.toNat_natCast];exact this)
  go_enter Tryz.func143,Tryz.ntmps143
  go_wp2
  go_ret
  exact ⟨retI hv.out.symm,(Below.refl _ _).alloc (Nat.le_refl _) _⟩
theorem yI {α : Type} {l : List α} {k : Nat} {x : α} (h : l[k]? = some x) : l.take (k + 1) = l.take k ++ [x] := by
 have hk : k < l.length := (List.getElem?_eq_some_iff.1 h).1
 rw [List.take_succ_eq_append_getElem hk]
 rw [List.getElem?_eq_getElem hk] at h
 injection h with h
 rw [h]
theorem get_of_lt {α : Type} {l : List α} {k n : Nat} (hn : l.length = n) (h : k < n) : ∃ x,Hid (l[k]? = some x) := ⟨l[k]'(by omega),List.getElem?_eq_getElem (by omega)⟩
theorem intInfo : (Tryz.prog.info? 3).map (fun i => (i.zero,i.size,i.bytes)) = some (some (.int .i64 0),1,8) := by kernel_rfl
theorem txn_Keys (ra ga sa : Option Addr) (nr rc ng gc ns sc : Nat) (t : Txn) (w : World) (h : TxnAt w ra nr ga ng sa ns t) :
 Calls Tryz.prog 147 #[.agg #[.slice ra nr rc,.slice ga ng gc,.slice sa ns sc]] w fun e w' => ∃ v,e = .returned v ∧ Own 3 1 encI w' w.heap.size v (keysOf t) ∧ Below w.heap.size w w' := by
 obtain ⟨i0,hi0,hz0,hz1,hz2⟩ := info_parts intInfo
 obtain ⟨_,_,⟨hns,hs⟩,_,_,hbytes⟩ := h
 have hsx := hs.alloc (.cells #[.slice ra nr rc,.slice ga ng gc,.slice sa ns sc] 75)
 have HB := Below.refl (w.alloc (.cells #[.slice ra nr rc,.slice ga ng gc,.slice sa ns sc] 75)).heap.size (w.alloc (.cells #[.slice ra nr rc,.slice ga ng gc,.slice sa ns sc] 75))
 go_enter Tryz.func147,Tryz.ntmps147
 go_wp2
 go_loopw [3,9] (fun v i wr => ∃ (k : Nat) (L : List Int),k ≤ ns ∧ i = .int .i64 k ∧ Hid (L = (keysOf t).take k ∧ L.length = k) ∧ Own 3 1 encI wr (w.heap.size + 1) v L ∧ Below (w.alloc (.cells #[.slice ra nr rc,.slice ga ng gc,.slice sa ns sc] 75)).heap.size (w.alloc (.cells #[.slice ra nr rc,.slice ga ng gc,.slice sa ns sc] 75)) wr) (fun _ i _ => ns - (intOf i).toNat)
 case atStart => exact ⟨0,[],Nat.zero_le _,rfl,⟨by simp,rfl⟩,Own.nil,HB⟩
 case round =>
  obtain ⟨k,L,hk,rfl,hL,hown,HB⟩ := hrel
  have hBs := HB.size
  simp only [World.size_alloc] at hBs
  by_cases hlt : k < ns
  ·have hsr := hsx.below HB
   obtain ⟨⟨key,op,⟨ak,an⟩,⟨bk,bn⟩⟩,hx⟩ := get_of_lt hns hlt
   obtain ⟨b,o,rfl,hb,hc⟩ := hsr.at_ hx.out
   have hxk : Hid ((keysOf t)[k]? = some key) := by have := hx.out;show (t.sets.map (·.key))[k]? = some key;rw [List.getElem?_map,this];rfl
   have c0 := hc 0 _ rfl
   have c1 := hc 1 _ rfl
   have c2 := hc 2 _ rfl
   have c3 := hc 3 _ rfl
   have c4 := hc 4 _ rfl
   have c5 := hc 5 _ rfl
   simp only [Nat.add_zero] at c0
   clear hc
   have hLl : L.length ≤ k := by rw [hL.out.2];omega
   go_wp2_with (at_builtin;go_loud (refine wpList_append_own _ rfl (.tmp 13) (.tmp 16) 34 rfl (w.heap.size + 1) 3 i0 (.int .i64 0) 1 8 Tryz.underlying34 hi0 hz0 hz1 hz2 rfl (by decide) _ _ _ rfl ((hown.alloc _).alloc _).out ⟨wr.heap.size + 1,0,none⟩ 1 1 (encI key) rfl rfl (news_blk (by simp)) (by simp [encI,Value.oneCell']) (by unfold maxLen;omega) (by omega) (by simp only [World.size_alloc];omega) ?_);intro v' w1 hown1 hgrow1 _;go_loud (replace hown1 := Own.push hown1);go_loud (have HB1 := ((hown.alloc _).alloc _).frame ((HB.alloc (by simp;omega) _).alloc (by simp;omega) _) (by simp) hgrow1))
   go_roundw
   case rel => exact ⟨k + 1,L ++ [key],by omega,by go_num,⟨by rw [hL.out.1,yI hxk.out],by rw [List.length_append,hL.out.2];rfl⟩,hown1,HB1⟩
   case measure => simp [intOf];omega
  ·have hkn : Hid (k = ns) := Nat.le_antisymm hk (Nat.le_of_not_lt hlt)
   go_wp2
   go_ret
   refine ⟨_,rfl,?_,qn HB⟩
   have : L = keysOf t := by rw [hL.out.1,hkn.out,List.take_of_length_le (by simp [keysOf,hns])]
   rw [this] at hown
   exact hown.base (by omega)
theorem rising_iff (l : List Int) : rising l = true ↔ ∀ i x y,l[i]? = some x → l[i + 1]? = some y → x < y := by
 induction l with
 | nil => simp [rising]
 | cons a l ih =>
  cases l with
  | nil => simp [rising]
  | cons b l =>
   simp only [rising,Bool.and_eq_true,decide_eq_true_eq,ih]
   constructor
   ·rintro ⟨h1,h2⟩ i x y hx hy
    cases i with
    | zero => simp at hx hy;omega
    | succ i => exact h2 i x y (by simpa using hx) (by simpa using hy)
   ·intro h
    exact ⟨h 0 a b rfl rfl,fun i x y hx hy => h (i + 1) x y (by simpa using hx) (by simpa using hy)⟩
def RisUp (k : Nat) (l : List Int) : Prop := ∀ i x y,i + 1 < k → l[i]? = some x → l[i + 1]? = some y → x < y
theorem RisUp.one (l : List Int) : RisUp 1 l := fun i _ _ h => by omega
theorem RisUp.next {k : Nat} {l : List Int} {x y : Int} (h : RisUp (k + 1) l) (hx : l[k]? = some x) (hy : l[k + 1]? = some y) (hlt : x < y) : RisUp (k + 2) l := by
 intro i a b hi ha hb
 rcases Nat.lt_or_ge (i + 1) (k + 1) with h1 | h1
 ·exact h i a b h1 ha hb
 ·obtain rfl : i = k := by omega
  rw [hx] at ha;rw [hy] at hb
  injection ha with ha;injection hb with hb
  omega
theorem RisUp.all {k : Nat} {l : List Int} (h : RisUp k l) (hk : l.length ≤ k) : rising l = true := by
 rw [rising_iff]
 intro i x y hx hy
 have : i + 1 < l.length := (List.getElem?_eq_some_iff.1 hy).1
 exact h i x y (by omega) hx hy
theorem vr {k : Nat} {l : List Int} {x y : Int} (hx : l[k]? = some x) (hy : l[k + 1]? = some y) (hge : y ≤ x) : rising l = false := by
 cases hr : rising l with
 | false => rfl
 | true => have := (rising_iff l).1 hr k x y hx hy;omega
theorem yi (b : Bool) (e : Int) (w : World) :
 Calls Tryz.prog 149 #[.bool b,.int .i64 e] w fun r w' => r = .returned (.int .i64 (if b then 0 else e)) ∧ w = w' := by
 cases b
 all_goals
  go_enter Tryz.func149,Tryz.ntmps149
  go_wp2
  go_ret
  exact ⟨rfl,rfl⟩
theorem qd (A : Option Addr) (len c : Nat) (xs : List Int) (w : World) (hl : len ≤ 4611686018427387904) (hs : Rd 1 encI w A len xs) :
 Calls Tryz.prog 151 #[.slice A len c] w fun e w' => e = .returned (.bool (rising xs)) ∧ Below w.heap.size w w' := by
 obtain ⟨hlen,hs⟩ := hs
 have HB := Below.refl w.heap.size w
 go_enter Tryz.func151,Tryz.ntmps151
 go_wp2
 go_loopw [3] (fun i wr => ∃ k : Nat,k + 1 ≤ max len 1 ∧ i = .int .i64 (k + 1) ∧ RisUp (k + 1) xs ∧ Below w.heap.size w wr) (fun i _ => len + 1 - (intOf i).toNat)
 case atStart => exact ⟨0,by omega,rfl,RisUp.one _,HB⟩
 case round =>
  obtain ⟨k,hk,rfl,hr,HB⟩ := hrel
  by_cases hlt : k + 1 < len
  ·have hsr := hs.below HB
   obtain ⟨b,o,x,rfl,hb,hx,hc⟩ := hsr.int (i := k) (by omega)
   obtain ⟨b',o',y,hA,_,hy,hc'⟩ := hsr.int (i := k + 1) (by omega)
   injection hA with hA
   injection hA with h1 h2
   subst h1 h2
   have i1 : (0 : Int) ≤ (k : Int) := by omega
   have i2 : (k : Int) < (len : Int) := by omega
   have i3 : (k : Int) + 1 < (len : Int) := by omega
   have i4 : (0 : Int) ≤ (k : Int) + 1 := by omega
   by_cases hxy : y ≤ x
   ·have hres := Lib.hid (vr hx.out hy.out hxy)
    go_wp2
    have z1 : IntKind.i64.wrap (k : Int) = (k : Int) := IntWalk.i64_in _ (by omega)
    have z2 : ((k : Int) + 1).toNat = k + 1 := by omega
    go_quiet (fail)
    clear z1 z2
    go_wp2
    go_ret
    exact ⟨retB hres.out.symm,Bel.drewN HB _⟩
   ·have hn : x < y := by omega
    have hres := RisUp.next hr hx.out hy.out hn
    go_wp2
    have z1 : IntKind.i64.wrap (k : Int) = (k : Int) := IntWalk.i64_in _ (by omega)
    have z2 : ((k : Int) + 1).toNat = k + 1 := by omega
    go_quiet (fail)
    clear z1 z2
    go_wp2
    go_roundw
    case rel => exact ⟨k + 1,by omega,by go_num,hres,Bel.drewN HB _⟩
    case measure => simp [intOf];omega
  ·have hres := Lib.hid (hr.all (by omega))
   go_wp2
   go_ret
   exact ⟨retB hres.out.symm,HB⟩
theorem fe_take_zero {l : List Int} {k : Nat} {x : Int} (h : fe (l.take k) = 0) (hx : l[k]? = some x) : fe (l.take (k + 1)) = x := by
 rw [yI hx,ui,if_pos h]
 by_cases h0 : x = 0 <;> simp [fe,h0]
theorem fe_of_take {l : List Int} {k : Nat} (h : fe (l.take k) ≠ 0) : fe l = fe (l.take k) := by
 conv => lhs;rw [← List.take_append_drop k l]
 rw [ui,if_neg h]
theorem yn (A : Option Addr) (len c : Nat) (l : List Int) (w : World) (hl : len ≤ 4611686018427387904) (hs : Rd 1 encI w A len l) (h0 : fe l = 0) :
 Calls Tryz.prog 148 #[.slice A len c] w fun e w' => e = .returned (.tuple #[]) ∧ w = w' := by
 obtain ⟨hlen,hs⟩ := hs
 have hz := Lib.hid (fe_zero.1 h0)
 clear h0
 go_enter Tryz.func148,Tryz.ntmps148
 go_wp2
 go_loop [3,6] (fun _ i => ∃ k : Nat,k ≤ len ∧ i = .int .i64 k) (fun _ i => len - (intOf i).toNat)
 case atStart => exact ⟨0,by omega,rfl⟩
 case round =>
  obtain ⟨k,hk,rfl⟩ := hrel
  by_cases hlt : k < len
  ·obtain ⟨b,o,x,rfl,hb,hx,hc⟩ := hs.int (i := k) (by omega)
   have hx0 : x = 0 := hz.out x (List.mem_of_getElem? hx.out)
   subst hx0
   go_wp2
   go_round
   case rel => exact ⟨k + 1,by omega,by go_num⟩
   case measure => simp [intOf];omega
  ·go_wp2
   go_end0
   exact ⟨rfl,rfl⟩
def Thrown (x : Int) (w : World) (e : Ending) (w' : World) : Prop := e = .panicked [{ v := .iface 213 (.agg #[.int .i64 x]),recovered := false }] ∧ w = w'
theorem uf (A : Option Addr) (len c : Nat) (l : List Int) (w : World) (hl : len ≤ 4611686018427387904) (hs : Rd 1 encI w A len l) (h0 : fe l ≠ 0) :
 Calls Tryz.prog 148 #[.slice A len c] w (Thrown (fe l) w) := by
 obtain ⟨hlen,hs⟩ := hs
 have hz := Lib.hid h0
 clear h0
 go_enter Tryz.func148,Tryz.ntmps148
 go_wp2
 go_loop [3,6] (fun _ i => ∃ k : Nat,k ≤ len ∧ i = .int .i64 k ∧ Hid (fe (l.take k) = 0)) (fun _ i => len - (intOf i).toNat)
 case atStart => exact ⟨0,by omega,rfl,rfl⟩
 case round =>
  obtain ⟨k,hk,rfl,hf⟩ := hrel
  by_cases hlt : k < len
  ·obtain ⟨b,o,x,rfl,hb,hx,hc⟩ := hs.int (i := k) (by omega)
   have hn := fe_take_zero hf.out hx.out
   by_cases hx0 : x = 0
   ·subst hx0
    replace hn := Lib.hid hn
    go_wp2
    go_round
    case rel => exact ⟨k + 1,by omega,by go_num,hn.out⟩
    case measure => simp [intOf];omega
   ·have hfe := Lib.hid (fe_of_take (l := l) (k := k + 1) (by rw [hn];exact hx0))
    replace hn := Lib.hid hn
    go_wp2
    exact ⟨rfl,by rw [hfe.out,hn.out];exact ⟨rfl,rfl⟩⟩
  ·exfalso
   have : l.take k = l := List.take_of_length_le (by omega)
   exact hz.out (by rw [← this];exact hf.out)
theorem ta_nil (w : World) : (Instr.typeAssert .nilIface 20 213 true).run Tryz.prog w = .ok (.tuple #[.agg #[.int .i64 0],.bool false]) w := by kernel_rfl
theorem ta_yes (x : Int) (w : World) : (Instr.typeAssert (.iface 213 (.agg #[.int .i64 x])) 20 213 true).run Tryz.prog w = .ok (.tuple #[.agg #[.int .i64 x],.bool true]) w := by kernel_rfl
theorem neq_nil (w : World) : (binOp .neq 20 .nilIface .nilIface).run Tryz.prog w = .ok (.bool false) w := by kernel_rfl
theorem txn_catch_idle (p : Addr) (w : World) :
 CallsD Tryz.prog 146 #[.pointer (some p)] .returning w fun e u' w' => e = .returned (.tuple #[]) ∧ u' = .returning ∧ Below w.heap.size w w' := by
 refine callsD_of_wpS Tryz.func146 rfl fun c₀ cs hu => ?_
 apply wpS_seq
 apply wpS_region
 simp [wpOpsS,go_sem,recoverD,hu,Tryz.ntmps146,Exit.thenS]
 have ht : (#[Value.pointer (some p)] ++ ((Array.replicate 15 undef).setIfInBounds 3 Value.nilIface).setIfInBounds 0 Value.nilIface) = #[.pointer (some p),.nilIface,undef,undef,.nilIface,undef,undef,undef,undef,undef,undef,undef,undef,undef,undef,undef] := rfl
 rw [ht]
 clear ht
 refine wpS_of_wp ?_
 have h1 := ta_nil
 have h2 := neq_nil
 go_wp2
 exact ⟨rfl,.returning,by rw [← hu],.tuple #[],results_none rfl _ _ _,rfl,rfl,Bel.alloc (Below.refl _ _) _⟩
theorem txn_catch_panic (p : Addr) (x y : Int) (w : World) (hp : p.block < w.heap.size) (hc0 : w.cell? p = some (.int .i64 y)) (hz0 : w.frozen? p = false) :
 CallsD Tryz.prog 146 #[.pointer (some p)] (.panicking [{ v := .iface 213 (.agg #[.int .i64 x]),recovered := false }]) w fun e u' w' =>
  e = .returned (.tuple #[]) ∧ u' = .panicking [{ v := .iface 213 (.agg #[.int .i64 x]),recovered := true }] ∧ ∃ w1,Below w.heap.size w w1 ∧ w' = w1.setCell p (.int .i64 x) := by
 refine callsD_of_wpS Tryz.func146 rfl fun c₀ cs hu => ?_
 apply wpS_seq
 apply wpS_region
 simp [wpOpsS,go_sem,recoverD,hu,Tryz.ntmps146,Exit.thenS]
 have ht : (#[Value.pointer (some p)] ++ ((Array.replicate 15 undef).setIfInBounds 3 (Value.iface 213 (.agg #[.int .i64 x]))).setIfInBounds 0 (Value.iface 213 (.agg #[.int .i64 x]))) = #[.pointer (some p),.iface 213 (.agg #[.int .i64 x]),undef,undef,.iface 213 (.agg #[.int .i64 x]),undef,undef,undef,undef,undef,undef,undef,undef,undef,undef,undef] := rfl
 rw [ht]
 clear ht
 refine wpS_of_wp ?_
 have h1 := ta_yes
 have hb : Below w.heap.size w (w.alloc (.cells #[.int .i64 x] 213)) := Bel.alloc (Below.refl _ _) _
 have hc := (hb.cell hp).trans hc0
 have hz := (hb.frozen hp).trans hz0
 clear hb hc0 hz0
 go_wp2
 exact ⟨rfl,_,rfl,.tuple #[],results_none rfl _ _ _,rfl,rfl,_,Bel.alloc (Below.refl _ _) _,rfl⟩
theorem run_append_of_nil {P : Program} (w : World) (base : Nat) (t ty e : TypeId) (i : TypeInfo) (size : Nat) (ht : P.underlying t = some (.slice e)) (hi : P.info? e = some i)
 (v : Value) (n : Nat) (xs : List Value) (hown : w.ownsRow base e size v n xs) (c : Nat) : (Builtin.append_ #[t,t] ty #[v,.slice none 0 c]).run P w = .ok v w := by
 rcases hown.2 with ⟨rfl,rfl⟩ | ⟨g,cap,cur,rfl,_,_,hnc,_⟩
 ·simp [Builtin.append_,run_underlying ht,sizeOf,typeInfo,hi,Builtin.lenOf,Builtin.firstCells]
 ·simp [Builtin.append_,run_underlying ht,sizeOf,typeInfo,hi,Builtin.lenOf,Builtin.firstCells,hnc,storeCells]
section
variable {α : Type} {enc : α → List Value} {P : Program} {w : World}
theorem mem_flat {xs : List α} (h1 : ∀ x,∀ u ∈ enc x,u.oneCell' = true) : ∀ u ∈ xs.flatMap enc,u.oneCell' = true := by
 intro u hu
 obtain ⟨x,_,hx⟩ := List.mem_flatMap.1 hu
 exact h1 x u hx
theorem flat_inv {k : Nat} (hk : ∀ x,(enc x).length = k) (hk0 : 0 < k) : ∀ (xs : List α) (j : Nat) (u : Value),(xs.flatMap enc)[j]? = some u → ∃ i x,xs[i]? = some x ∧ (enc x)[j % k]? = some u ∧ i = j / k := by
 intro xs
 induction xs with
 | nil => intro j u h;simp at h
 | cons y ys ih =>
  intro j u h
  rw [List.flatMap_cons] at h
  rcases Nat.lt_or_ge j k with hj | hj
  ·rw [List.getElem?_append_left (by rw [hk];exact hj)] at h
   exact ⟨0,y,rfl,by rw [Nat.mod_eq_of_lt hj];exact h,by rw [Nat.div_eq_of_lt hj]⟩
  ·rw [List.getElem?_append_right (by rw [hk];exact hj),hk] at h
   obtain ⟨i,x,h1,h2,h3⟩ := ih _ _ h
   refine ⟨i + 1,x,by simpa using h1,?_,?_⟩
   ·rw [Nat.mod_eq_sub_mod hj];exact h2
   ·rw [Nat.div_eq_sub_div hk0 hj,h3]
theorem run_append_rd (base : Nat) (t ty e : TypeId) (i : TypeInfo) (z : Value) (size bytes : Nat) (ht : P.underlying t = some (.slice e)) (hi : P.info? e = some i) (hz : i.zero = some z)
 (hsize : i.size = size) (hby : i.bytes = bytes) (hzs : z.cells.size = size) (hsz : 0 < size) (hk : ∀ x,(enc x).length = size) (h1 : ∀ x,∀ u ∈ enc x,u.oneCell' = true)
 (v : Value) (xs : List α) (hown : Own e size enc w base v xs) (A : Option Addr) (m c : Nat) (ys : List α) (hr : Rd size enc w A m ys)
 (h63 : xs.length + m ≤ maxLen) (hbytes : (xs.length + m) * bytes ≤ 140737488355328) (hbase : base ≤ w.heap.size) :
 ∃ v' w',(Builtin.append_ #[t,t] ty #[v,.slice A m c]).run P w = .ok v' w' ∧ Own e size enc w' base v' (xs ++ ys) ∧ w.grownBy w' v.ownBlock := by
 obtain ⟨hm,hs⟩ := hr
 subst hm
 rcases A with _ | ad
 ·rcases hs with rfl | ⟨b,o,hA,_⟩
  ·exact ⟨v,w,run_append_of_nil w base t ty e i size ht hi v _ _ hown c,by simpa using hown,⟨rfl,rfl,rfl,Nat.le_refl _,fun _ _ _ => rfl⟩⟩
  ·cases hA
 ·have hnews : ∀ j u,(ys.flatMap enc)[j]? = some u → w.cell? (ad.add j) = some u := by
   intro j u hu
   rcases hs with rfl | ⟨b,o,hA,hb,hc⟩
   ·simp at hu
   ·injection hA with hA
    subst hA
    obtain ⟨i',x,hx,hj,hij⟩ := flat_inv hk hsz ys j u hu
    have := hc i' x hx _ u hj
    have hadd : (⟨b,o,none⟩ : Addr).add j = ⟨b,o + j,none⟩ := by by_cases h0 : j = 0 <;> simp [Addr.add,h0]
    rw [hadd]
    have hj2 : i' * size + j % size = j := by rw [hij,Nat.mul_comm];exact Nat.div_add_mod j size
    rw [Nat.add_assoc,hj2] at this
    exact this
  obtain ⟨v',w',hrun,h2,h3,_⟩ := run_append_own (P := P) w base t ty e i z size bytes ht hi hz hsize hby hzs hsz v _ _ hown ad ys.length c (ys.flatMap enc) (flat_length hk ys) hnews (mem_flat h1) h63 hbytes hbase
  exact ⟨v',w',hrun,Own.more h2 rfl,h3⟩
theorem yz {ops : Array Oper} {rest : List Oper} {o : Oper} {a : Act} {Q : Exit → Act → World → Prop} (hgd : o.guard = none) (s x : _root_.Go.Operand) (t : TypeId)
 (ho : o.op = .call { callee := .builtin .append,args := #[s,x],argTypes := #[t,t] })
 (base : Nat) (e : TypeId) (i : TypeInfo) (z : Value) (size bytes : Nat) (ht : P.underlying t = some (.slice e)) (hi : P.info? e = some i) (hz : i.zero = some z)
 (hsize : i.size = size) (hby : i.bytes = bytes) (hzs : z.cells.size = size) (hsz : 0 < size) (hk : ∀ x,(enc x).length = size) (h1 : ∀ x,∀ u ∈ enc x,u.oneCell' = true)
 (v : Value) (xs : List α) (hs : a.eval s = v) (hown : Own e size enc w base v xs) (A : Option Addr) (m c : Nat) (ys : List α) (hx : a.eval x = .slice A m c) (hr : Rd size enc w A m ys)
 (h63 : xs.length + m ≤ maxLen) (hbytes : (xs.length + m) * bytes ≤ 140737488355328) (hbase : base ≤ w.heap.size)
 (h : ∀ v' w',Own e size enc w' base v' (xs ++ ys) → w.grownBy w' v.ownBlock → wpList P ops Q rest (a.put o.dst v') w') : wpList P ops Q (o :: rest) a w := by
 obtain ⟨v',w',hrun,h2,h3⟩ := run_append_rd (P := P) base t o.type e i z size bytes ht hi hz hsize hby hzs hsz hk h1 v xs hown A m c ys hr h63 hbytes hbase
 refine wpList_plain hgd fun K hK => ?_
 unfold Oper.wp execOp
 simp only [ho,resolve,invoke,builtin,Sem.run_bind,Sem.run_pure,Result.andThen_ok,List.map_toArray,List.map_cons,List.map_nil,hs,hx,hrun]
 exact hK _ _ (h v' w' h2 h3)
end
theorem oneI (x : Int) : ∀ u ∈ encI x,u.oneCell' = true := by simp [encI,Value.oneCell']
theorem Own.zero {α : Type} {E k B : Nat} {enc : α → List Value} {w : World} {cur : Array Value} {cap g : Nat} (hg : w.heap[g]? = some (.cells cur E (0,0))) (hB : B ≤ g) (hc : cap ≤ maxLen) (hcur : cur.size = cap * k) :
 Own E k enc w B (.slice (some ⟨g,0,none⟩) 0 cap) ([] : List α) := by
 refine ⟨by simp,.inr ⟨g,cap,cur,rfl,hB,hg,Nat.zero_le _,hc,hcur,by simp⟩⟩
theorem slices_Grow_int (n : Nat) (w : World) (hn : n ≤ 17592186044416) :
 Calls Tryz.prog 173 #[.slice none 0 0,.int .i64 n] w fun e w' => ∃ v,e = .returned v ∧ Own 3 1 encI w' w.heap.size v [] ∧ Below w.heap.size w w' := by
 obtain ⟨i0,hi0,hz0,hz1,hz2⟩ := info_parts intInfo
 rcases Nat.eq_zero_or_pos n with h0 | hpos
 ·subst h0
  go_enter Tryz.func173,Tryz.ntmps173
  go_wp2
  go_ret
  exact ⟨_,rfl,Own.nil,Below.refl _ _⟩
 ·have hG := grownCap_ge w n 0 3
  have hGm := grownCap_le_maxLen w n 0 3 (by unfold maxLen;omega)
  have hrz : ∀ ty,(Builtin.append_ #[34,3] ty #[.slice none 0 0,.int .i64 (n : Int)]).run Tryz.prog w =
   .ok (.slice (some ⟨w.heap.size,0,none⟩) n (grownCap w n 0 3)) (w.drew.alloc (.cells (Builtin.zeroCells (Value.int .i64 0).cells n ++ Builtin.zeroCells (Value.int .i64 0).cells (grownCap w n 0 3 - n)) 3)) := fun ty =>
   Lib.run_append_nil_zeros w 34 3 ty 3 i0 (.int .i64 0) .i64 .i64 Tryz.underlying34 Tryz.underlying3 hi0 hz0 n hpos (by omega) (by omega) (by rw [hz2];omega)
  obtain ⟨G,hGe⟩ : ∃ G,Hid (G = grownCap w n 0 3) := ⟨_,rfl⟩
  rw [← hGe.out] at hrz hG hGm
  have hsz : (Builtin.zeroCells (Value.int .i64 0).cells n ++ Builtin.zeroCells (Value.int .i64 0).cells (G - n)).size = G * 1 := by
   simp only [Array.size_append,size_zeroCells,Value.cells];simp;omega
  obtain ⟨C,hC⟩ : ∃ C,C = (Builtin.zeroCells (Value.int .i64 0).cells n ++ Builtin.zeroCells (Value.int .i64 0).cells (G - n)) := ⟨_,rfl⟩
  rw [← hC] at hrz hsz
  clear hC
  have hown : Own 3 1 encI (w.drew.alloc (.cells C 3)) w.heap.size (.slice (some ⟨w.heap.size,0,none⟩) 0 G) [] := Own.zero (heap_alloc_new w.drew _) (Nat.le_refl _) hGm hsz
  have hG2 : G ≤ 9223372036854775807 := by unfold maxLen at hGm;omega
  have hHid := Lib.hid hsz
  clear hsz
  go_enter Tryz.func173,Tryz.ntmps173
  go_wp2_with (at_builtin;refine Lib.wpList_append_run _ rfl _ _ _ _ rfl _ _ rfl rfl _ _ (hrz _) ?_)
  go_ret
  exact ⟨_,rfl,hown,Bel.alloc (Below.refl _ _).drew _⟩
theorem slices_Concat_int (g c A1 n1 c1 A2 n2 c2) (xs1 xs2 : List Int) (w : World) (hg : g < w.heap.size) (g0 : w.cell? ⟨g,0,none⟩ = some (.slice A1 n1 c1)) (g1 : w.cell? ⟨g,1,none⟩ = some (.slice A2 n2 c2))
 (h1 : Rd 1 encI w A1 n1 xs1) (h2 : Rd 1 encI w A2 n2 xs2) (hn : n1 + n2 ≤ 8796093022208) :
 Calls Tryz.prog 150 #[.slice (some ⟨g,0,none⟩) 2 c] w fun e w' => ∃ v,e = .returned v ∧ Own 3 1 encI w' w.heap.size v (xs1 ++ xs2) ∧ Below w.heap.size w w' := by
 obtain ⟨i0,hi0,hz0,hz1,hz2⟩ := info_parts intInfo
 have HB := Below.refl w.heap.size w
 go_enter Tryz.func150,Tryz.ntmps150
 go_wp2
 refine wp_loop_rounds 3 ?_
 rw [rounds_succ]
 go_wp2
 rw [rounds_succ]
 go_wp2
 rw [rounds_succ]
 go_wp2_with (go_at_call 173;rw [show ((n1 : Int) + (n2 : Int)) = ((n1 + n2 : Nat) : Int) by omega];refine (slices_Grow_int _ _ (by omega)).mono ?_;rintro e w1 ⟨v,rfl,hv,hb⟩)
 have k0 := (hb.cell (p := ⟨g,0,none⟩) hg).trans g0
 have k1 := (hb.cell (p := ⟨g,1,none⟩) hg).trans g1
 have r1 := h1.below hb
 refine wp_loop_rounds 3 ?_
 rw [rounds_succ]
 go_wp2_with (at_builtin;refine yz rfl _ _ _ rfl w.heap.size 3 i0 (.int .i64 0) 1 8 Tryz.underlying34 hi0 hz0 hz1 hz2 rfl (by decide) oy oneI v [] rfl hv A1 n1 c1 xs1 rfl r1 (by simp only [List.length_nil];unfold maxLen;omega) (by simp only [List.length_nil];omega) hb.size ?_;intro v2 w2 hv2 hg2;have hb2 := hv.frame hb (Nat.le_refl _) hg2;rw [List.nil_append] at hv2)
 have q0 := (hb2.cell (p := ⟨g,0,none⟩) hg).trans g0
 have q1 := (hb2.cell (p := ⟨g,1,none⟩) hg).trans g1
 have r2 := h2.below hb2
 have l1 : xs1.length ≤ n1 := by rw [h1.1];omega
 rw [rounds_succ]
 go_wp2_with (at_builtin;refine yz rfl _ _ _ rfl w.heap.size 3 i0 (.int .i64 0) 1 8 Tryz.underlying34 hi0 hz0 hz1 hz2 rfl (by decide) oy oneI v2 xs1 rfl hv2 A2 n2 c2 xs2 rfl r2 (by unfold maxLen;omega) (by omega) hb2.size ?_;intro v3 w3 hv3 hg3;have hb3 := hv2.frame hb2 (Nat.le_refl _) hg3)
 rw [rounds_succ]
 go_wp2
 go_ret
 exact ⟨_,rfl,hv3,hb3⟩
end Go.Proofs.YtjgmbgfcffnanaaGreatDoor
