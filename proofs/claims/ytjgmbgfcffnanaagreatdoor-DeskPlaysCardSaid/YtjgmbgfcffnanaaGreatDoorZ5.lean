/- The reference's CheckTxn answers what the document says. -/
import Derived.Lib.SliceRun
import Derived.Test.YtjgmbgfcffnanaaGreatDoorZ4
set_option maxRecDepth 100000
set_option maxHeartbeats 4000000
namespace Go.Proofs.YtjgmbgfcffnanaaGreatDoor
open Go.RowKit
theorem ref_isKey (x : Int) (w : World) : Calls Tryz.prog 65 #[.int .i64 x] w fun e w' => e = .returned (.bool (isKeyB x)) ∧ w = w' := by
 go_enter Tryz.func65,Tryz.ntmps65
 go_wp2
 all_goals
  go_ret
  refine ⟨retB ?_,rfl⟩
  simp [isKeyB]
  try omega
theorem not_all_key {t : Txn} {x : Int} (hs : sizesOk t) (hx : x ∈ t.reads ++ keysOf t) (hk : isKeyB x = false) : checkTxn t = 3 := by
 refine vk hs ?_
 cases h : (t.reads ++ keysOf t).all isKeyB with
 | false => rfl
 | true => rw [List.all_eq_true.1 h x hx] at hk;cases hk
theorem all_key {t : Txn} (h1 : KeysTo t.reads.length t.reads) (h2 : KeysTo (keysOf t).length (keysOf t)) : (t.reads ++ keysOf t).all isKeyB = true := by
 rw [List.all_append,h1.all (Nat.le_refl _),h2.all (Nat.le_refl _)];rfl
theorem keysOf_get {t : Txn} {j : Nat} {s : SetT} (h : t.sets[j]? = some s) : (keysOf t)[j]? = some s.key := by
 show (t.sets.map (·.key))[j]? = some s.key
 rw [List.getElem?_map,h];rfl
def rkW (w : World) (ra : Option Addr) (nr rc : Nat) (ga : Option Addr) (ng gc : Nat) (sa : Option Addr) (ns sc : Nat) : World :=
 w.alloc (.cells #[.slice ra nr rc,.slice ga ng gc,.slice sa ns sc] 75)
section
variable {w wc : World} {ra : Option Addr} {nr rc : Nat} {ga : Option Addr} {ng gc : Nat} {sa : Option Addr} {ns sc : Nat}
theorem rkW_size : (rkW w ra nr rc ga ng gc sa ns sc).heap.size = w.heap.size + 1 := by simp [rkW]
theorem rk_cells (h : Below (rkW w ra nr rc ga ng gc sa ns sc).heap.size (rkW w ra nr rc ga ng gc sa ns sc) wc) :
 wc.cell? ⟨w.heap.size,0,none⟩ = some (.slice ra nr rc) ∧ wc.cell? ⟨w.heap.size,1,none⟩ = some (.slice ga ng gc) ∧ wc.cell? ⟨w.heap.size,2,none⟩ = some (.slice sa ns sc) ∧
 w.heap.size < wc.heap.size ∧ w.heap.size ≤ wc.heap.size ∧ (∀ n,w.heap.size < wc.heap.size + n) := by
 have hs := h.size
 rw [rkW_size] at hs
 refine ⟨(h.cell (by rw [rkW_size];simp)).trans ?_,(h.cell (by rw [rkW_size];simp)).trans ?_,(h.cell (by rw [rkW_size];simp)).trans ?_,by omega,by omega,fun n => by omega⟩
 all_goals simp [rkW,go_sem]
end
def txErrs (t : Txn) : List Int := [checkTxn t]
def checkTxns (l : List Txn) : Int := if 8 < l.length then 2 else fe (l.flatMap txErrs)
theorem fe_one (x : Int) : fe [x] = x := by by_cases h : x = 0 <;> simp [fe,h]
def val (xs : List Int) (o : Operand) : Int := valueOf o.kind o.n xs
def gHold (xs : List Int) (g : Guard) : Bool := holdsB g.kind (val xs g.a) (val xs g.b)
def sVal (xs : List Int) (s : SetT) : Int := reckonN s.op (val xs s.a) (val xs s.b)
def runDone (t : Txn) (xs : List Int) : Bool := t.guards.all (gHold xs)
def runSets (t : Txn) (xs : List Int) : List Int := if runDone t xs then t.sets.map (sVal xs) else []
theorem y6 {t : Txn} (h : checkTxn t = 0) : sizesOk t ∧ (∀ k ∈ t.reads ++ keysOf t,isKeyB k = true) ∧ (rising t.reads && rising (keysOf t)) = true ∧
 (∀ g ∈ t.guards,holdsE g.kind = 0 ∧ checkOp g.a.kind g.a.n t.reads.length = 0 ∧ checkOp g.b.kind g.b.n t.reads.length = 0) ∧
 (∀ s ∈ t.sets,reckonE s.op = 0 ∧ checkOp s.a.kind s.a.n t.reads.length = 0 ∧ checkOp s.b.kind s.b.n t.reads.length = 0) := by
 unfold checkTxn at h
 by_cases h1 : sizesOk t
 ·rw [if_pos h1] at h
  by_cases h2 : (t.reads ++ keysOf t).all isKeyB = true
  ·rw [if_pos h2] at h
   by_cases h3 : (rising t.reads && rising (keysOf t)) = true
   ·rw [if_pos h3] at h
    have h4 := fe_zero.1 h
    refine ⟨h1,List.all_eq_true.1 h2,h3,fun g hg => ?_,fun s hs => ?_⟩
    ·have := fun x hx => h4 x (List.mem_append_left _ (List.mem_flatMap.2 ⟨g,hg,hx⟩))
     exact ⟨this _ (by simp [gErrs]),this _ (by simp [gErrs]),this _ (by simp [gErrs])⟩
    ·have := fun x hx => h4 x (List.mem_append_right _ (List.mem_flatMap.2 ⟨s,hs,hx⟩))
     exact ⟨this _ (by simp [sErrs]),this _ (by simp [sErrs]),this _ (by simp [sErrs])⟩
   ·rw [if_neg h3] at h;cases h
  ·rw [if_neg h2] at h;cases h
 ·rw [if_neg h1] at h;cases h
theorem Own.empty {α : Type} {E k : Nat} {enc : α → List Value} (w : World) {B b : Nat} (hb : b = w.heap.size) (hB : B ≤ b) : Own E k enc (w.alloc (.cells #[] E)) B (.slice (some ⟨b,0,none⟩) 0 0) ([] : List α) := by
 subst hb
 exact Own.zero (heap_alloc_new w _) hB (by simp [maxLen]) (by simp)
theorem qT (A n c) (xs : List Int) (w : World) (h : Rd 1 encI w A n xs) (hn : n ≤ 8796093022208) :
 Calls Tryz.prog 38 #[.slice A n c] w fun e w' => ∃ v,e = .returned v ∧ Own 3 1 encI w' w.heap.size v xs ∧ Below w.heap.size w w' := by
 obtain ⟨i0,hi0,hz0,hz1,hz2⟩ := info_parts intInfo
 have hq : ∀ (w : World) (a : Option Addr) (n c n' c' : Nat),(binOp .eql 34 (.slice a n c) (.slice none n' c')).run Tryz.prog w = .ok (.bool a.isNone) w := fun w a n c n' c' => Lib.run_eql_slice_nil w _ _ a n c n' c' Tryz.underlying34
 rcases A with _ | ad
 ·have hxs : xs = [] := by
   rcases h.2 with rfl | ⟨b,o,hA,_⟩
   ·rfl
   ·cases hA
  subst hxs
  go_enter Tryz.func38,Tryz.ntmps38
  go_wp2
  go_ret
  exact ⟨_,rfl,Own.nil,Below.refl _ _⟩
 ·go_enter Tryz.func38,Tryz.ntmps38
  go_wp2_with (at_builtin;refine yz rfl _ _ _ rfl w.heap.size 3 i0 (.int .i64 0) 1 8 Tryz.underlying34 hi0 hz0 hz1 hz2 rfl (by decide) oy oneI _ [] rfl (Own.empty w rfl (Nat.le_refl _)) (some ad) n c xs rfl (h.alloc _) (by simp only [List.length_nil];unfold maxLen;omega) (by simp only [List.length_nil];omega) (by simp) ?_;intro v2 w2 hv2 hg2;have hb2 := (Own.empty (α := Int) (E := 3) (k := 1) (enc := encI) w rfl (Nat.le_refl _)).frame (Bel.alloc (Below.refl _ _) _) (Nat.le_refl _) hg2;rw [List.nil_append] at hv2)
  go_ret
  exact ⟨_,rfl,hv2,hb2⟩
theorem yY (k m : Int) (p : Nat) (A n c) (xs : List Int) (w : World) (hp : p < w.heap.size) (hc : w.cell? ⟨p,0,none⟩ = some (.slice A n c)) (hl : n ≤ 9223372036854775807) (h : Rd 1 encI w A n xs) (h0 : checkOp k m n = 0) :
 Calls Tryz.prog 126 #[.agg #[.int .i64 k,.int .i64 m],.pointer (some ⟨p,0,none⟩)] w fun e w' => e = .returned (.int .i64 (valueOf k m xs)) ∧ Below w.heap.size w w' := by
 have hv : Hid (valueN k m xs = valueOf k m xs) := by show valueN _ _ _ = _;rw [valueN,h.1,if_pos h0]
 have hlt : p < w.heap.size + 1 := by omega
 have hlt2 : p ≠ w.heap.size := by omega
 go_enter Tryz.func126,Tryz.ntmps126
 go_wp2_with (go_at_call 127;refine (vals_Value _ _ _ _ _ xs _ hl (h.alloc _)).mono ?_;rintro e w1 ⟨rfl,hb⟩)
 go_ret
 exact ⟨retI hv.out,Bel.step (Bel.alloc (Below.refl _ _) _) hb⟩
theorem Own.keep {α : Type} {E k B : Nat} {enc : α → List Value} {w w' : World} {v : Value} {xs : List α} (h : Own E k enc w B v xs) (hb : ∀ g,B ≤ g → g < w.heap.size → w'.heap[g]? = w.heap[g]?) : Own E k enc w' B v xs := by
 obtain ⟨h1,h2⟩ := h
 refine ⟨h1,?_⟩
 rcases h2 with h2 | ⟨g,cap,cur,hv,hg,hh,r⟩
 ·exact .inl h2
 ·have hlt : g < w.heap.size := by
   rcases Nat.lt_or_ge g w.heap.size with hlt | hge
   ·exact hlt
   ·rw [Array.getElem?_eq_none hge] at hh;cases hh
  exact .inr ⟨g,cap,cur,hv,hg,(hb g hg hlt).trans hh,r⟩
theorem Own.below {α : Type} {E k B : Nat} {enc : α → List Value} {w w' : World} {v : Value} {xs : List α} (h : Own E k enc w B v xs) (hb : Below w.heap.size w w') : Own E k enc w' B v xs := h.keep fun g _ hg => hb.block g hg
theorem Own.setLow {α : Type} {E k B : Nat} {enc : α → List Value} {w : World} {v : Value} {xs : List α} (h : Own E k enc w B v xs) {p : Addr} (hp : p.block < B) (u : Value) : Own E k enc (w.setCell p u) B v xs := ownsRow_setCell_below h hp u
theorem Own.slice {E B n : Nat} {w : World} {v : Value} {xs : List Int} (h : Own E 1 encI w B v xs) (hn : xs.length = n) : ∃ A c,v = .slice A n c ∧ n ≤ c := by
 obtain ⟨A,c,rfl,h1,_⟩ := h.form oy
 subst hn
 exact ⟨A,c,rfl,h1⟩
theorem jX {a w : World} {x y : Value} {t : TypeId} (h : Below (a.alloc (.cells #[x,y] t)).heap.size (a.alloc (.cells #[x,y] t)) w) :
 w.cell? ⟨a.heap.size,0,none⟩ = some x ∧ w.cell? ⟨a.heap.size,1,none⟩ = some y ∧ (∀ o,w.frozen? ⟨a.heap.size,o,none⟩ = false) ∧ a.heap.size < w.heap.size ∧ a.heap.size ≤ w.heap.size ∧ (∀ n,a.heap.size < w.heap.size + n) := by
 have h2 := h.size
 simp only [World.size_alloc] at h2
 exact ⟨(h.cell (by simp)).trans (by simp [World.cell?_alloc_new]),(h.cell (by simp)).trans (by simp [World.cell?_alloc_new]),fun o => (h.frozen (by simp)).trans (by simp [go_sem]),by omega,by omega,fun n => by omega⟩
theorem j9 {X : World} {b : Nat} {a0 a1 x y : Value} (h0 : X.cell? ⟨b,0,none⟩ = some a0) (h1 : X.cell? ⟨b,1,none⟩ = some a1) :
 ((X.setCell ⟨b,0,none⟩ x).setCell ⟨b,1,none⟩ y).cell? ⟨b,0,none⟩ = some x ∧ ((X.setCell ⟨b,0,none⟩ x).setCell ⟨b,1,none⟩ y).cell? ⟨b,1,none⟩ = some y := by
 have e1 : (X.setCell ⟨b,0,none⟩ x).cell? ⟨b,1,none⟩ = some a1 := by rw [World.cell?_setCell_other _ _ _ _ (by simp)];exact h1
 refine ⟨?_,World.cell?_setCell_same _ _ _ e1⟩
 rw [World.cell?_setCell_other _ _ _ _ (by simp)]
 exact World.cell?_setCell_same _ _ _ h0
def doW (w : World) (ra : Option Addr) (nr rc : Nat) (ga : Option Addr) (ng gc : Nat) (sa : Option Addr) (ns sc : Nat) (xa : Option Addr) (nx xc : Nat) : World :=
 ((w.alloc (.cells #[.slice ra nr rc,.slice ga ng gc,.slice sa ns sc] 75)).alloc (.cells #[.slice xa nx xc] 34)).alloc (.cells #[.bool false,.slice none 0 0] 163)
section
variable {w wc : World} {ra : Option Addr} {nr rc : Nat} {ga : Option Addr} {ng gc : Nat} {sa : Option Addr} {ns sc : Nat} {xa : Option Addr} {nx xc : Nat}
theorem doW_eq : ((w.alloc (.cells #[.slice ra nr rc,.slice ga ng gc,.slice sa ns sc] 75)).alloc (.cells #[.slice xa nx xc] 34)).alloc (.cells #[.bool false,.slice none 0 0] 163) = doW w ra nr rc ga ng gc sa ns sc xa nx xc := rfl
theorem u4 : (doW w ra nr rc ga ng gc sa ns sc xa nx xc).heap.size = w.heap.size + 3 := by simp [doW]
theorem doW_below : Below w.heap.size w (doW w ra nr rc ga ng gc sa ns sc xa nx xc) := Bel.alloc (Bel.alloc (Bel.alloc (Below.refl _ _) _) _) _
theorem do_below (h : Below (doW w ra nr rc ga ng gc sa ns sc xa nx xc).heap.size (doW w ra nr rc ga ng gc sa ns sc xa nx xc) wc) : Below w.heap.size w wc := Bel.step doW_below h
theorem qV (h : Below (doW w ra nr rc ga ng gc sa ns sc xa nx xc).heap.size (doW w ra nr rc ga ng gc sa ns sc xa nx xc) wc) :
 wc.cell? ⟨w.heap.size,0,none⟩ = some (.slice ra nr rc) ∧ wc.cell? ⟨w.heap.size,1,none⟩ = some (.slice ga ng gc) ∧ wc.cell? ⟨w.heap.size,2,none⟩ = some (.slice sa ns sc) ∧
 wc.cell? ⟨w.heap.size + 1,0,none⟩ = some (.slice xa nx xc) ∧ wc.cell? ⟨w.heap.size + 2,0,none⟩ = some (.bool false) ∧ wc.cell? ⟨w.heap.size + 2,1,none⟩ = some (.slice none 0 0) ∧ (∀ o,wc.frozen? ⟨w.heap.size + 2,o,none⟩ = false) ∧
 w.heap.size < wc.heap.size ∧ w.heap.size + 1 < wc.heap.size ∧ w.heap.size + 2 < wc.heap.size ∧ w.heap.size ≤ wc.heap.size ∧ (∀ n,w.heap.size < wc.heap.size + n) ∧ (∀ n,w.heap.size + 1 < wc.heap.size + n) ∧ (∀ n,w.heap.size + 2 < wc.heap.size + n) := by
 have hs := h.size
 rw [u4] at hs
 refine ⟨(h.cell (by rw [u4];simp)).trans ?_,(h.cell (by rw [u4];simp)).trans ?_,(h.cell (by rw [u4];simp)).trans ?_,(h.cell (by rw [u4];simp)).trans ?_,(h.cell (by rw [u4];simp)).trans ?_,(h.cell (by rw [u4];simp)).trans ?_,fun o => (h.frozen (by rw [u4];simp)).trans ?_,by omega,by omega,by omega,by omega,fun n => by omega,fun n => by omega,fun n => by omega⟩
 all_goals simp [doW,go_sem]
end
theorem txn_Do (ra ga sa : Option Addr) (nr rc ng gc ns sc : Nat) (t : Txn) (xa : Option Addr) (xc : Nat) (xs : List Int) (w : World) (h : TxnAt w ra nr ga ng sa ns t) (hx : Rd 1 encI w xa nr xs) (hok : checkTxn t = 0) :
 Calls Tryz.prog 90 #[.agg #[.slice ra nr rc,.slice ga ng gc,.slice sa ns sc],.slice xa nr xc] w fun e w' => ∃ v1 v2,e = .returned (.tuple #[.agg #[.bool (runDone t xs),v1],v2]) ∧ Own 3 1 encI w' w.heap.size v1 xs ∧ Own 3 1 encI w' w.heap.size v2 (runSets t xs) ∧ Below w.heap.size w w' := by
 have hmf : ∀ (fn : Fn) (first cap : Array Value) (w : World),(Instr.makeFunc fn first cap).run Tryz.prog w = .ok (.func fn first cap) w := fun _ _ _ _ => rfl
 have hp := Lib.hid (y6 hok)
 clear hok
 have hr4 : nr ≤ 4 := by have h1 := hp.out.1.1;have h2 := h.1.1;omega
 have hW := ((h.alloc (.cells #[.slice ra nr rc,.slice ga ng gc,.slice sa ns sc] 75)).alloc (.cells #[.slice xa nr xc] 34)).alloc (.cells #[.bool false,.slice none 0 0] 163)
 have hX := ((hx.alloc (.cells #[.slice ra nr rc,.slice ga ng gc,.slice sa ns sc] 75)).alloc (.cells #[.slice xa nr xc] 34)).alloc (.cells #[.bool false,.slice none 0 0] 163)
 rw [doW_eq] at hW hX
 go_enter Tryz.func90,Tryz.ntmps90
 go_wp2_with (go_at_call 38;rw [doW_eq];refine (qT xa nr xc xs _ hX (by omega)).mono ?_;rintro e w1 ⟨v,rfl,hv,HB1⟩;obtain ⟨va,vc,rfl,hvc⟩ := hv.slice hX.1;have HC := qV HB1)
 have hg0 := Lib.hid (show (t.guards.take 0).all (gHold xs) = true from rfl)
 have hBg := hW.2.1.below HB1
 have hBs := hW.2.2.1.below HB1
 have hBx := hX.below HB1
 have hH1 : Hid (t.guards.length = ng) := hW.2.1.1
 have hH2 : Hid (t.sets.length = ns) := hW.2.2.1.1
 have hng := hW.2.2.2.2.1
 have hns := hW.2.2.2.2.2
 have hRl : Hid (t.reads.length = nr) := hW.1.1
 have hv3 := hv
 rw [u4] at hv3
 clear hW hX h hx
 go_loopw [24] (fun i wr => ∃ k : Nat,k ≤ ng ∧ i = .int .i64 k ∧ Hid ((t.guards.take k).all (gHold xs) = true) ∧ Below (w1.alloc (.cells #[.bool true,.slice va nr vc] 163)).heap.size (w1.alloc (.cells #[.bool true,.slice va nr vc] 163)) wr) (fun i _ => ng - (intOf i).toNat)
 case atStart => exact ⟨0,by omega,rfl,hg0,Below.refl _ _⟩
 case round =>
  obtain ⟨k,hk,rfl,hall,HBr⟩ := hrel
  have HBd := Bel.step (Bel.alloc HB1 _) HBr
  clear HC
  have HC := qV HBd
  have hw1 : w.heap.size + 2 < w1.heap.size := by have h2 := HB1.size;rw [u4] at h2;omega
  have HD := jX HBr
  have HBw : Below w1.heap.size w1 wr := Bel.step (Bel.alloc (Below.refl _ _) _) HBr
  by_cases hlt : k < ng
  ·obtain ⟨b,o,gk,ak,an,bk,bn,rfl,hbx,hx,c0,c1,c2,c3,c4⟩ := get_guard (hBg.below HBw) hlt
   have hge := Lib.hid (hp.out.2.2.2.1 _ (List.mem_of_getElem? hx.out))
   have hsS : ∀ W,Below (wr.alloc (.cells #[.int .i64 gk,.int .i64 ak,.int .i64 an,.int .i64 bk,.int .i64 bn] 83)).heap.size (wr.alloc (.cells #[.int .i64 gk,.int .i64 ak,.int .i64 an,.int .i64 bk,.int .i64 bn] 83)) W →
    Below (wr.alloc (.cells #[.int .i64 gk,.int .i64 ak,.int .i64 an,.int .i64 bk,.int .i64 bn] 83)).heap.size (wr.alloc (.cells #[.int .i64 gk,.int .i64 ak,.int .i64 an,.int .i64 bk,.int .i64 bn] 83)) W ∧ W.cell? ⟨wr.heap.size,0,none⟩ = some (.int .i64 gk) ∧ W.cell? ⟨wr.heap.size,1,none⟩ = some (.int .i64 ak) ∧ W.cell? ⟨wr.heap.size,2,none⟩ = some (.int .i64 an) ∧ W.cell? ⟨wr.heap.size,3,none⟩ = some (.int .i64 bk) ∧ W.cell? ⟨wr.heap.size,4,none⟩ = some (.int .i64 bn) ∧ w.heap.size + 1 < W.heap.size ∧ W.cell? ⟨w.heap.size + 1,0,none⟩ = some (.slice xa nr xc) ∧ Rd 1 encI W xa nr xs := by
    intro W hW
    have h3 := hW.size
    simp only [World.size_alloc] at h3
    refine ⟨hW,(hW.cell (by simp)).trans (by simp [World.cell?_alloc_new]),(hW.cell (by simp)).trans (by simp [World.cell?_alloc_new]),(hW.cell (by simp)).trans (by simp [World.cell?_alloc_new]),(hW.cell (by simp)).trans (by simp [World.cell?_alloc_new]),(hW.cell (by simp)).trans (by simp [World.cell?_alloc_new]),by omega,?_,(hBx.below (Bel.step (Bel.alloc HBw _) hW))⟩
    have h4 := (qV (Bel.step (Bel.alloc HBd _) hW))
    exact h4.2.2.2.1
   have hsT : ∀ W,Below (wr.alloc (.cells #[.int .i64 gk,.int .i64 ak,.int .i64 an,.int .i64 bk,.int .i64 bn] 83)).heap.size (wr.alloc (.cells #[.int .i64 gk,.int .i64 ak,.int .i64 an,.int .i64 bk,.int .i64 bn] 83)) W ∧ W.cell? ⟨wr.heap.size,0,none⟩ = some (.int .i64 gk) ∧ W.cell? ⟨wr.heap.size,1,none⟩ = some (.int .i64 ak) ∧ W.cell? ⟨wr.heap.size,2,none⟩ = some (.int .i64 an) ∧ W.cell? ⟨wr.heap.size,3,none⟩ = some (.int .i64 bk) ∧ W.cell? ⟨wr.heap.size,4,none⟩ = some (.int .i64 bn) ∧ w.heap.size + 1 < W.heap.size ∧ W.cell? ⟨w.heap.size + 1,0,none⟩ = some (.slice xa nr xc) ∧ Rd 1 encI W xa nr xs →
    w.heap.size + 1 < W.heap.size ∧ W.cell? ⟨w.heap.size + 1,0,none⟩ = some (.slice xa nr xc) ∧ Rd 1 encI W xa nr xs := fun W hq => hq.2.2.2.2.2.2
   have hga : Hid (checkOp ak an nr = 0) := by have h5 := hge.out.2.1;rw [hRl.out] at h5;exact h5
   have hgb : Hid (checkOp bk bn nr = 0) := by have h5 := hge.out.2.2;rw [hRl.out] at h5;exact h5
   cases hB : gHold xs ⟨gk,⟨ak,an⟩,⟨bk,bn⟩⟩ with
   | true =>
    have u1 : holdsB gk (valueOf ak an xs) (valueOf bk bn xs) = true := hB
    have hnext : Hid ((t.guards.take (k + 1)).all (gHold xs) = true) := by show _ = true;rw [yI hx.out,List.all_append,hall.out,List.all_cons,hB];rfl
    clear hB
    go_wp2
    go_region_held3 (fun W => Below (wr.alloc (.cells #[.int .i64 gk,.int .i64 ak,.int .i64 an,.int .i64 bk,.int .i64 bn] 83)).heap.size (wr.alloc (.cells #[.int .i64 gk,.int .i64 ak,.int .i64 an,.int .i64 bk,.int .i64 bn] 83)) W ∧ W.cell? ⟨wr.heap.size,0,none⟩ = some (.int .i64 gk) ∧ W.cell? ⟨wr.heap.size,1,none⟩ = some (.int .i64 ak) ∧ W.cell? ⟨wr.heap.size,2,none⟩ = some (.int .i64 an) ∧ W.cell? ⟨wr.heap.size,3,none⟩ = some (.int .i64 bk) ∧ W.cell? ⟨wr.heap.size,4,none⟩ = some (.int .i64 bn) ∧ w.heap.size + 1 < W.heap.size ∧ W.cell? ⟨w.heap.size + 1,0,none⟩ = some (.slice xa nr xc) ∧ Rd 1 encI W xa nr xs)
     (first | exact hsS _ HR | exact hsS _ (Below.refl _ _).drew)
     (first
      | (go_at_call_of 126 (Value.agg #[.int .i64 ak,.int .i64 an]);obtain ⟨q1,q2,q3⟩ := hsT _ (by assumption);refine (yY ak an _ _ _ _ xs _ q1 q2 (by omega) q3 hga.out).mono ?_;rintro e w' ⟨rfl,hb⟩;have HR := Rg.step (by assumption) hb)
      | (go_at_call_of 126 (Value.agg #[.int .i64 bk,.int .i64 bn]);obtain ⟨q1,q2,q3⟩ := hsT _ (by assumption);refine (yY bk bn _ _ _ _ xs _ q1 q2 (by omega) q3 hgb.out).mono ?_;rintro e w' ⟨rfl,hb⟩;have HR := Rg.step (by assumption) hb)
      | (go_at_call 128;refine (qe _ _ _ _).mono ?_;rintro e w' ⟨rfl,rfl⟩))
    go_wp2
    go_roundw
    case rel => exact ⟨k + 1,by omega,by go_num,hnext,Bel.step (Bel.alloc HBr _) HR⟩
    case measure => simp [intOf];omega
   | false =>
    have u1 : holdsB gk (valueOf ak an xs) (valueOf bk bn xs) = false := hB
    have hrd : Hid (runDone t xs = false) := by show _ = false;rw [runDone,List.all_eq_false];exact ⟨_,List.mem_of_getElem? hx.out,by rw [hB];simp⟩
    clear hB
    go_wp2
    go_region_held3 (fun W => Below (wr.alloc (.cells #[.int .i64 gk,.int .i64 ak,.int .i64 an,.int .i64 bk,.int .i64 bn] 83)).heap.size (wr.alloc (.cells #[.int .i64 gk,.int .i64 ak,.int .i64 an,.int .i64 bk,.int .i64 bn] 83)) W ∧ W.cell? ⟨wr.heap.size,0,none⟩ = some (.int .i64 gk) ∧ W.cell? ⟨wr.heap.size,1,none⟩ = some (.int .i64 ak) ∧ W.cell? ⟨wr.heap.size,2,none⟩ = some (.int .i64 an) ∧ W.cell? ⟨wr.heap.size,3,none⟩ = some (.int .i64 bk) ∧ W.cell? ⟨wr.heap.size,4,none⟩ = some (.int .i64 bn) ∧ w.heap.size + 1 < W.heap.size ∧ W.cell? ⟨w.heap.size + 1,0,none⟩ = some (.slice xa nr xc) ∧ Rd 1 encI W xa nr xs)
     (first | exact hsS _ HR | exact hsS _ (Below.refl _ _).drew)
     (first
      | (go_at_call_of 126 (Value.agg #[.int .i64 ak,.int .i64 an]);obtain ⟨q1,q2,q3⟩ := hsT _ (by assumption);refine (yY ak an _ _ _ _ xs _ q1 q2 (by omega) q3 hga.out).mono ?_;rintro e w' ⟨rfl,hb⟩;have HR := Rg.step (by assumption) hb)
      | (go_at_call_of 126 (Value.agg #[.int .i64 bk,.int .i64 bn]);obtain ⟨q1,q2,q3⟩ := hsT _ (by assumption);refine (yY bk bn _ _ _ _ xs _ q1 q2 (by omega) q3 hgb.out).mono ?_;rintro e w' ⟨rfl,hb⟩;have HR := Rg.step (by assumption) hb)
      | (go_at_call 128;refine (qe _ _ _ _).mono ?_;rintro e w' ⟨rfl,rfl⟩))
    have HBr2 := Bel.step (Bel.alloc HBr _) HR
    have HBd2 := Bel.step (Bel.alloc HBd _) HR
    clear HC HD
    have HC := qV HBd2
    have HD := jX HBr2
    have HBw2 := Bel.step (Bel.alloc (Below.refl _ _) _) HBr2
    go_wp2
    (try simp only [Exit.inBlock,Exit.then])
    have hn1 : w1.heap.size ≠ w.heap.size + 2 := by omega
    have hR := j9 (x := .bool false) (y := .slice va nr vc) ((World.cell?_setCell_far _ ⟨w1.heap.size,0,none⟩ ⟨w.heap.size + 1 + 1,0,none⟩ (.bool false) hn1).trans HC.2.2.2.2.1) ((World.cell?_setCell_far _ ⟨w1.heap.size,0,none⟩ ⟨w.heap.size + 1 + 1,1,none⟩ (.bool false) hn1).trans HC.2.2.2.2.2.1)
    refine bodyPost_ret (v := .tuple #[.agg #[.bool false,.slice va nr vc],.slice none 0 0]) (by simp [results,Tryz.results90,go_sem,hR.1,hR.2]) rfl ?_
    refine ⟨_,_,by rw [hrd.out],?_,?_,?_⟩
    ·exact (((hv3.below ((HBw2.setCell (by simp) _))).setLow (by simp) _).setLow (by simp) _).base (by omega)
    ·have hsn : runSets t xs = [] := by rw [runSets,hrd.out];rfl
     rw [hsn];exact Own.nil
    ·exact (((do_below HBd2).setCell (by simp;omega) _).setCell (by simp;omega) _).setCell (by simp;omega) _
  ·have hrd : Hid (runDone t xs = true) := by
    have h2 := hall.out
    rw [List.take_of_length_le (by have := hH1.out;omega)] at h2
    exact h2
   obtain ⟨i0,hi0,hz0,hz1,hz2⟩ := info_parts intInfo
   obtain ⟨wo,hwo⟩ : ∃ wo : World,wo = wr := ⟨_,rfl⟩
   subst hwo
   go_wp2
   go_loopw [12,50] (fun v i wr => ∃ (j : Nat) (L : List Int),j ≤ ns ∧ i = .int .i64 j ∧ Hid (L = (t.sets.take j).map (sVal xs) ∧ L.length = j) ∧ Own 3 1 encI wr (w1.heap.size + 1) v L ∧ Below (w1.alloc (.cells #[.bool true,.slice va nr vc] 163)).heap.size (w1.alloc (.cells #[.bool true,.slice va nr vc] 163)) wr) (fun _ i _ => ns - (intOf i).toNat)
   case atStart => exact ⟨0,[],by omega,rfl,⟨rfl,rfl⟩,Own.nil,HBr⟩
   case round =>
    obtain ⟨j,L,hj,rfl,hL,hown,HBs⟩ := hrel
    clear HC HD HBd HBr HBw
    have HBd := Bel.step (Bel.alloc HB1 _) HBs
    have HC := qV HBd
    have HD := jX HBs
    have HBw : Below w1.heap.size w1 wr := Bel.step (Bel.alloc (Below.refl _ _) _) HBs
    by_cases hjt : j < ns
    ·obtain ⟨b,o,key,op,ak,an,bk,bn,rfl,hbx,hx,c0,c1,c2,c3,c4,c5⟩ := get_set (hBs.below HBw) hjt
     have hge := Lib.hid (hp.out.2.2.2.2 _ (List.mem_of_getElem? hx.out))
     have hsS : ∀ W,Below (wr.alloc (.cells #[.int .i64 key,.int .i64 op,.int .i64 ak,.int .i64 an,.int .i64 bk,.int .i64 bn] 90)).heap.size (wr.alloc (.cells #[.int .i64 key,.int .i64 op,.int .i64 ak,.int .i64 an,.int .i64 bk,.int .i64 bn] 90)) W → Below (wr.alloc (.cells #[.int .i64 key,.int .i64 op,.int .i64 ak,.int .i64 an,.int .i64 bk,.int .i64 bn] 90)).heap.size (wr.alloc (.cells #[.int .i64 key,.int .i64 op,.int .i64 ak,.int .i64 an,.int .i64 bk,.int .i64 bn] 90)) W ∧ W.cell? ⟨wr.heap.size,0,none⟩ = some (.int .i64 key) ∧ W.cell? ⟨wr.heap.size,1,none⟩ = some (.int .i64 op) ∧ W.cell? ⟨wr.heap.size,2,none⟩ = some (.int .i64 ak) ∧ W.cell? ⟨wr.heap.size,3,none⟩ = some (.int .i64 an) ∧ W.cell? ⟨wr.heap.size,4,none⟩ = some (.int .i64 bk) ∧ W.cell? ⟨wr.heap.size,5,none⟩ = some (.int .i64 bn) ∧ w.heap.size + 1 < W.heap.size ∧ W.cell? ⟨w.heap.size + 1,0,none⟩ = some (.slice xa nr xc) ∧ Rd 1 encI W xa nr xs := by
      intro W hW
      have h3 := hW.size
      simp only [World.size_alloc] at h3
      refine ⟨hW,(hW.cell (by simp)).trans (by simp [World.cell?_alloc_new]),(hW.cell (by simp)).trans (by simp [World.cell?_alloc_new]),(hW.cell (by simp)).trans (by simp [World.cell?_alloc_new]),(hW.cell (by simp)).trans (by simp [World.cell?_alloc_new]),(hW.cell (by simp)).trans (by simp [World.cell?_alloc_new]),(hW.cell (by simp)).trans (by simp [World.cell?_alloc_new]),by omega,?_,(hBx.below (Bel.step (Bel.alloc HBw _) hW))⟩
      have h4 := (qV (Bel.step (Bel.alloc HBd _) hW))
      exact h4.2.2.2.1
     have hsT : ∀ W,Below (wr.alloc (.cells #[.int .i64 key,.int .i64 op,.int .i64 ak,.int .i64 an,.int .i64 bk,.int .i64 bn] 90)).heap.size (wr.alloc (.cells #[.int .i64 key,.int .i64 op,.int .i64 ak,.int .i64 an,.int .i64 bk,.int .i64 bn] 90)) W ∧ W.cell? ⟨wr.heap.size,0,none⟩ = some (.int .i64 key) ∧ W.cell? ⟨wr.heap.size,1,none⟩ = some (.int .i64 op) ∧ W.cell? ⟨wr.heap.size,2,none⟩ = some (.int .i64 ak) ∧ W.cell? ⟨wr.heap.size,3,none⟩ = some (.int .i64 an) ∧ W.cell? ⟨wr.heap.size,4,none⟩ = some (.int .i64 bk) ∧ W.cell? ⟨wr.heap.size,5,none⟩ = some (.int .i64 bn) ∧ w.heap.size + 1 < W.heap.size ∧ W.cell? ⟨w.heap.size + 1,0,none⟩ = some (.slice xa nr xc) ∧ Rd 1 encI W xa nr xs → w.heap.size + 1 < W.heap.size ∧ W.cell? ⟨w.heap.size + 1,0,none⟩ = some (.slice xa nr xc) ∧ Rd 1 encI W xa nr xs := fun W hq => hq.2.2.2.2.2.2.2
     have hga : Hid (checkOp ak an nr = 0) := by have h5 := hge.out.2.1;rw [hRl.out] at h5;exact h5
     have hgb : Hid (checkOp bk bn nr = 0) := by have h5 := hge.out.2.2;rw [hRl.out] at h5;exact h5
     have hval : Hid (sVal xs ⟨key,op,⟨ak,an⟩,⟨bk,bn⟩⟩ = reckonN op (valueOf ak an xs) (valueOf bk bn xs)) := (rfl : _ = _)
     have hLl : L.length ≤ j := by rw [hL.out.2];omega
     have hj48 : ns ≤ 3 := by have h6 := hp.out.1.2.2.2;have h7 := hH2.out;omega
     go_wp2
     go_region_held3 (fun W => Below (wr.alloc (.cells #[.int .i64 key,.int .i64 op,.int .i64 ak,.int .i64 an,.int .i64 bk,.int .i64 bn] 90)).heap.size (wr.alloc (.cells #[.int .i64 key,.int .i64 op,.int .i64 ak,.int .i64 an,.int .i64 bk,.int .i64 bn] 90)) W ∧ W.cell? ⟨wr.heap.size,0,none⟩ = some (.int .i64 key) ∧ W.cell? ⟨wr.heap.size,1,none⟩ = some (.int .i64 op) ∧ W.cell? ⟨wr.heap.size,2,none⟩ = some (.int .i64 ak) ∧ W.cell? ⟨wr.heap.size,3,none⟩ = some (.int .i64 an) ∧ W.cell? ⟨wr.heap.size,4,none⟩ = some (.int .i64 bk) ∧ W.cell? ⟨wr.heap.size,5,none⟩ = some (.int .i64 bn) ∧ w.heap.size + 1 < W.heap.size ∧ W.cell? ⟨w.heap.size + 1,0,none⟩ = some (.slice xa nr xc) ∧ Rd 1 encI W xa nr xs)
      (first | exact hsS _ HR | exact hsS _ (Below.refl _ _).drew)
      (first
       | (go_at_call_of 126 (Value.agg #[.int .i64 ak,.int .i64 an]);obtain ⟨q1,q2,q3⟩ := hsT _ (by assumption);refine (yY ak an _ _ _ _ xs _ q1 q2 (by omega) q3 hga.out).mono ?_;rintro e w' ⟨rfl,hb⟩;have HR := Rg.step (by assumption) hb)
       | (go_at_call_of 126 (Value.agg #[.int .i64 bk,.int .i64 bn]);obtain ⟨q1,q2,q3⟩ := hsT _ (by assumption);refine (yY bk bn _ _ _ _ xs _ q1 q2 (by omega) q3 hgb.out).mono ?_;rintro e w' ⟨rfl,hb⟩;have HR := Rg.step (by assumption) hb)
       | (go_at_call 129;refine (jS _ _ _ _).mono ?_;rintro e w5 ⟨rfl,hb⟩;have HR := Rg.step (by assumption) hb))
     have hown5 := (hown.alloc _).below HR
     have HB5 := Bel.step (Bel.alloc HBs _) HR
     go_wp2_with (at_builtin;go_loud (refine wpList_append_own _ rfl (.tmp 68) (.tmp 70) 34 rfl (w1.heap.size + 1) 3 i0 (.int .i64 0) 1 8 Tryz.underlying34 hi0 hz0 hz1 hz2 rfl (by decide) _ _ _ rfl (hown5.alloc _).out ⟨w5.heap.size,0,none⟩ 1 1 (encI (reckonN op (valueOf ak an xs) (valueOf bk bn xs))) rfl rfl (news_blk rfl) (by simp [encI,Value.oneCell']) (by unfold maxLen;omega) (by omega) (by have h8 := HB5.size;simp only [World.size_alloc] at h8 ⊢;omega) ?_);intro v' w6 hown1 hgrow1 _;replace hown1 := Own.push hown1;have HB6 := Own.frame (hown5.alloc _) (Bel.alloc HB5 _) (by simp only [World.size_alloc];omega) hgrow1)
     go_roundw
     case rel => exact ⟨j + 1,L ++ [reckonN op (valueOf ak an xs) (valueOf bk bn xs)],by omega,by go_num,⟨by rw [hL.out.1,yI hx.out,List.map_append,List.map_cons,List.map_nil,hval.out],by rw [List.length_append,hL.out.2];rfl⟩,hown1,HB6⟩
     case measure => simp [intOf];omega
    ·have hkn : Hid (j = ns) := Nat.le_antisymm hj (Nat.le_of_not_lt hjt)
     go_wp2
     (try simp only [Exit.inBlock,Exit.then])
     have hR := j9 (x := .bool true) (y := .slice va nr vc) HC.2.2.2.2.1 HC.2.2.2.2.2.1
     refine bodyPost_ret (by simp [results,Tryz.results90,go_sem,hR.1,hR.2];rfl) rfl ?_
     have hls : L = runSets t xs := by rw [runSets,if_pos hrd.out,hL.out.1,hkn.out,List.take_of_length_le (by rw [hH2.out];omega)]
     rw [hls] at hown
     refine ⟨_,_,by rw [hrd.out],?_,?_,?_⟩
     ·exact (((hv3.below HBw).setLow (by simp) _).setLow (by simp) _).base (by omega)
     ·exact ((hown.setLow (by simp;omega) _).setLow (by simp;omega) _).base (by omega)
     ·exact ((do_below HBd).setCell (by simp;omega) _).setCell (by simp;omega) _
def roW (w : World) (ra : Option Addr) (nr rc : Nat) (ga : Option Addr) (ng gc : Nat) (sa : Option Addr) (ns sc : Nat) : World :=
 (w.alloc (.cells #[.slice ra nr rc,.slice ga ng gc,.slice sa ns sc] 75)).alloc (.cells #[.bool false,.slice none 0 0] 163)
section
variable {w wc : World} {ra : Option Addr} {nr rc : Nat} {ga : Option Addr} {ng gc : Nat} {sa : Option Addr} {ns sc : Nat}
theorem roW_eq : (w.alloc (.cells #[.slice ra nr rc,.slice ga ng gc,.slice sa ns sc] 75)).alloc (.cells #[.bool false,.slice none 0 0] 163) = roW w ra nr rc ga ng gc sa ns sc := rfl
theorem yW : (roW w ra nr rc ga ng gc sa ns sc).heap.size = w.heap.size + 2 := by simp [roW]
theorem roW_below : Below w.heap.size w (roW w ra nr rc ga ng gc sa ns sc) := Bel.alloc (Bel.alloc (Below.refl _ _) _) _
theorem ro_below (h : Below (roW w ra nr rc ga ng gc sa ns sc).heap.size (roW w ra nr rc ga ng gc sa ns sc) wc) : Below w.heap.size w wc := Bel.step roW_below h
theorem ro_cells (h : Below (roW w ra nr rc ga ng gc sa ns sc).heap.size (roW w ra nr rc ga ng gc sa ns sc) wc) :
 wc.cell? ⟨w.heap.size,0,none⟩ = some (.slice ra nr rc) ∧ wc.cell? ⟨w.heap.size,1,none⟩ = some (.slice ga ng gc) ∧ wc.cell? ⟨w.heap.size,2,none⟩ = some (.slice sa ns sc) ∧
 wc.cell? ⟨w.heap.size + 1,0,none⟩ = some (.bool false) ∧ wc.cell? ⟨w.heap.size + 1,1,none⟩ = some (.slice none 0 0) ∧ (∀ o,wc.frozen? ⟨w.heap.size + 1,o,none⟩ = false) ∧
 w.heap.size < wc.heap.size ∧ w.heap.size + 1 < wc.heap.size ∧ w.heap.size ≤ wc.heap.size ∧ (∀ n,w.heap.size < wc.heap.size + n) ∧ (∀ n,w.heap.size + 1 < wc.heap.size + n) := by
 have hs := h.size
 rw [yW] at hs
 refine ⟨(h.cell (by rw [yW];simp)).trans ?_,(h.cell (by rw [yW];simp)).trans ?_,(h.cell (by rw [yW];simp)).trans ?_,(h.cell (by rw [yW];simp)).trans ?_,(h.cell (by rw [yW];simp)).trans ?_,fun o => (h.frozen (by rw [yW];simp)).trans ?_,by omega,by omega,by omega,fun n => by omega,fun n => by omega⟩
 all_goals simp [roW,go_sem]
end
theorem ref_RunOf (ra ga sa : Option Addr) (nr rc ng gc ns sc : Nat) (t : Txn) (xa : Option Addr) (xc : Nat) (xs : List Int) (w : World) (h : TxnAt w ra nr ga ng sa ns t) (hx : Rd 1 encI w xa nr xs) (hok : checkTxn t = 0) :
 Calls Tryz.prog 105 #[.agg #[.slice ra nr rc,.slice ga ng gc,.slice sa ns sc],.slice xa nr xc] w fun e w' => ∃ v1 v2,e = .returned (.tuple #[.agg #[.bool (runDone t xs),v1],v2]) ∧ Own 3 1 encI w' w.heap.size v1 xs ∧ Own 3 1 encI w' w.heap.size v2 (runSets t xs) ∧ Below w.heap.size w w' := by
 obtain ⟨i0,hi0,hz0,hz1,hz2⟩ := info_parts intInfo
 have hp := Lib.hid (y6 hok)
 clear hok
 have hr4 : nr ≤ 4 := by have h1 := hp.out.1.1;have h2 := h.1.1;omega
 have hW := ((h.alloc (.cells #[.slice ra nr rc,.slice ga ng gc,.slice sa ns sc] 75)).alloc (.cells #[.bool false,.slice none 0 0] 163))
 have hX := ((hx.alloc (.cells #[.slice ra nr rc,.slice ga ng gc,.slice sa ns sc] 75)).alloc (.cells #[.bool false,.slice none 0 0] 163))
 rw [roW_eq] at hW hX
 go_enter Tryz.func105,Tryz.ntmps105
 go_wp2_with (at_builtin;rw [roW_eq];go_loud (refine yz rfl _ _ _ rfl (w.heap.size + 2) 3 i0 (.int .i64 0) 1 8 Tryz.underlying34 hi0 hz0 hz1 hz2 rfl (by decide) oy oneI _ [] rfl (Own.empty (roW w ra nr rc ga ng gc sa ns sc) (by rw [yW]) (by omega)) xa nr xc xs rfl (hX.alloc _) (by simp only [List.length_nil];unfold maxLen;omega) (by simp only [List.length_nil];omega) (by simp only [World.size_alloc,yW];omega) ?_);intro v2 w1 hv hg2;have HB1 := (Own.empty (α := Int) (E := 3) (k := 1) (enc := encI) (B := w.heap.size + 2) (b := w.heap.size + 1 + 1) (roW w ra nr rc ga ng gc sa ns sc) (by rw [yW]) (by omega)).frame (Bel.alloc (Below.refl _ _) _) (by rw [yW];exact Nat.le_refl _) hg2;rw [List.nil_append] at hv;obtain ⟨va,vc,rfl,hvc⟩ := hv.slice hX.1;have HC := ro_cells HB1)
 have hBg := hW.2.1.below HB1
 have hBs := hW.2.2.1.below HB1
 have hBx := hX.below HB1
 have hH1 : Hid (t.guards.length = ng) := hW.2.1.1
 have hH2 : Hid (t.sets.length = ns) := hW.2.2.1.1
 have hRl : Hid (t.reads.length = nr) := hW.1.1
 have hng2 : ng ≤ 2 := by have h1 := hp.out.1.2.1;have h2 := hH1.out;omega
 have hns := hW.2.2.2.2.2
 have hv3 := hv.base (B' := w.heap.size + 2) (Nat.le_refl _)
 have hw1 : w.heap.size + 1 < w1.heap.size := HC.2.2.2.2.2.2.2.1
 clear hW hX h hx hg2
 have hg0 : Hid (true = (t.guards.take 0).all (gHold xs)) := rfl
 have hT := jX (Below.refl (w1.alloc (.cells #[.bool true,.slice va nr vc] 163)).heap.size _)
 go_loopw [7] (fun i wr => ∃ (k : Nat) (D : Bool),k ≤ ng ∧ i = .int .i64 k ∧ Hid (D = (t.guards.take k).all (gHold xs)) ∧ Below w1.heap.size w1 wr ∧ wr.cell? ⟨w1.heap.size,0,none⟩ = some (.bool D) ∧ wr.cell? ⟨w1.heap.size,1,none⟩ = some (.slice va nr vc) ∧ (∀ o,wr.frozen? ⟨w1.heap.size,o,none⟩ = false) ∧ w1.heap.size < wr.heap.size) (fun i _ => ng - (intOf i).toNat)
 case atStart => exact ⟨0,true,by omega,rfl,hg0,Bel.alloc (Below.refl _ _) _,hT.1,hT.2.1,hT.2.2.1,hT.2.2.2.1⟩
 case round =>
  clear hT
  obtain ⟨k,D,hk,rfl,hD,HBw,d0,d1,d2,hwr⟩ := hrel
  have HBd := Bel.step HB1 HBw
  clear HC
  have HC := ro_cells HBd
  by_cases hlt : k < ng
  ·obtain ⟨b,o,gk,ak,an,bk,bn,rfl,hbx,hx,c0,c1,c2,c3,c4⟩ := get_guard (hBg.below HBw) hlt
   have hge := Lib.hid (hp.out.2.2.2.1 _ (List.mem_of_getElem? hx.out))
   have i1 : (0 : Int) ≤ (k : Int) := by omega
   have i2 : (k : Int) < (ng : Int) := by omega
   have hsS : ∀ W,Below wr.heap.size wr W → Below wr.heap.size wr W ∧ W.cell? ⟨w.heap.size,1,none⟩ = some (.slice (some ⟨b,o,none⟩) ng gc) ∧ W.cell? ⟨b,o + k * 5,none⟩ = some (.int .i64 gk) ∧ W.cell? ⟨b,o + k * 5 + 1,none⟩ = some (.int .i64 ak) ∧ W.cell? ⟨b,o + k * 5 + 2,none⟩ = some (.int .i64 an) ∧ W.cell? ⟨b,o + k * 5 + 3,none⟩ = some (.int .i64 bk) ∧ W.cell? ⟨b,o + k * 5 + 4,none⟩ = some (.int .i64 bn) ∧ Rd 1 encI W xa nr xs := fun W hW =>
    ⟨hW,(hW.cell (by simp;omega)).trans HC.2.1,(hW.cell hbx).trans c0,(hW.cell hbx).trans c1,(hW.cell hbx).trans c2,(hW.cell hbx).trans c3,(hW.cell hbx).trans c4,hBx.below (Bel.step HBw hW)⟩
   have hsT : ∀ W,Below wr.heap.size wr W ∧ W.cell? ⟨w.heap.size,1,none⟩ = some (.slice (some ⟨b,o,none⟩) ng gc) ∧ W.cell? ⟨b,o + k * 5,none⟩ = some (.int .i64 gk) ∧ W.cell? ⟨b,o + k * 5 + 1,none⟩ = some (.int .i64 ak) ∧ W.cell? ⟨b,o + k * 5 + 2,none⟩ = some (.int .i64 an) ∧ W.cell? ⟨b,o + k * 5 + 3,none⟩ = some (.int .i64 bk) ∧ W.cell? ⟨b,o + k * 5 + 4,none⟩ = some (.int .i64 bn) ∧ Rd 1 encI W xa nr xs → Rd 1 encI W xa nr xs := fun W hq => hq.2.2.2.2.2.2.2
   have hga : Hid (checkOp ak an nr = 0) := by have h5 := hge.out.2.1;rw [hRl.out] at h5;exact h5
   have hgb : Hid (checkOp bk bn nr = 0) := by have h5 := hge.out.2.2;rw [hRl.out] at h5;exact h5
   have hval : Hid (gHold xs ⟨gk,⟨ak,an⟩,⟨bk,bn⟩⟩ = holdsB gk (valueOf ak an xs) (valueOf bk bn xs)) := (rfl : _ = _)
   obtain ⟨G,hG⟩ : ∃ G,G = holdsB gk (valueOf ak an xs) (valueOf bk bn xs) := ⟨_,rfl⟩
   have hnext : Hid ((D && G) = (t.guards.take (k + 1)).all (gHold xs)) := by show _ = _;rw [yI hx.out,List.all_append,← hD.out,List.all_cons,hval.out,← hG];simp
   clear hval
   go_wp2
   go_region_held3 (fun W => Below wr.heap.size wr W ∧ W.cell? ⟨w.heap.size,1,none⟩ = some (.slice (some ⟨b,o,none⟩) ng gc) ∧ W.cell? ⟨b,o + k * 5,none⟩ = some (.int .i64 gk) ∧ W.cell? ⟨b,o + k * 5 + 1,none⟩ = some (.int .i64 ak) ∧ W.cell? ⟨b,o + k * 5 + 2,none⟩ = some (.int .i64 an) ∧ W.cell? ⟨b,o + k * 5 + 3,none⟩ = some (.int .i64 bk) ∧ W.cell? ⟨b,o + k * 5 + 4,none⟩ = some (.int .i64 bn) ∧ Rd 1 encI W xa nr xs)
    (first | exact hsS _ HR | exact hsS _ (Below.refl _ _).drew)
    (first
     | (go_at_call_of 143 (Value.agg #[.int .i64 ak,.int .i64 an]);have q3 := hsT _ (by assumption);refine (qk ak an _ _ _ xs _ (by omega) q3 hga.out).mono ?_;rintro e w5 ⟨rfl,hb⟩;have HR := Rg.step (by assumption) hb)
     | (go_at_call_of 143 (Value.agg #[.int .i64 bk,.int .i64 bn]);have q3 := hsT _ (by assumption);refine (qk bk bn _ _ _ xs _ (by omega) q3 hgb.out).mono ?_;rintro e w5 ⟨rfl,hb⟩;have HR := Rg.step (by assumption) hb)
     | (go_at_call 142;refine (ref_HoldsOf _ _ _ _).mono ?_;rintro e w' ⟨rfl,rfl⟩))
   rw [← hG]
   clear hG
   have e0 : w5.cell? ⟨w1.heap.size,0,none⟩ = some (.bool D) := (HR.cell (by simp;omega)).trans d0
   have e1 : w5.cell? ⟨w1.heap.size,1,none⟩ = some (.slice va nr vc) := (HR.cell (by simp;omega)).trans d1
   have e2 : ∀ o,w5.frozen? ⟨w1.heap.size,o,none⟩ = false := fun o => (HR.frozen (by simp;omega)).trans (d2 o)
   have e3 : w1.heap.size < w5.heap.size := Nat.lt_of_lt_of_le hwr HR.size
   have HBn := Bel.step HBw HR
   clear HC c0 c1 c2 c3 c4 hsS hsT
   cases D <;> cases G
   all_goals
    go_wp2
    go_roundw
   all_goals first
    | exact ⟨k + 1,_,by omega,by go_num,hnext,HBn.setCell (by simp) _,World.cell?_setCell_same _ _ _ e0,(World.cell?_setCell_other _ _ _ _ (by simp)).trans e1,fun o => (World.frozen?_setCell _ _ _ _).trans (e2 o),by simpa [World.setCell] using e3⟩
    | (simp [intOf];omega)
  ·have hrd : Hid (runDone t xs = D) := by
    have h2 := hD.out
    rw [List.take_of_length_le (by have := hH1.out;omega)] at h2
    exact h2.symm
   cases D with
   | false =>
    go_wp2
    (try simp only [Exit.inBlock,Exit.then])
    have hR := j9 (x := .bool false) (y := .slice va nr vc) HC.2.2.2.1 HC.2.2.2.2.1
    refine bodyPost_ret (by simp [results,Tryz.results105,go_sem,hR.1,hR.2];rfl) rfl ?_
    refine ⟨_,_,by rw [hrd.out],?_,?_,?_⟩
    ·exact (((hv3.below HBw).setLow (by simp) _).setLow (by simp) _).base (by omega)
    ·have hsn : runSets t xs = [] := by rw [runSets,hrd.out];rfl
     rw [hsn];exact Own.nil
    ·exact ((ro_below HBd).setCell (by simp) _).setCell (by simp) _
   | true =>
    obtain ⟨wo,hwo⟩ : ∃ wo : World,wo = wr := ⟨_,rfl⟩
    subst hwo
    go_wp2
    go_loopw [10,11] (fun v i wr => ∃ (j : Nat) (L : List Int),j ≤ ns ∧ i = .int .i64 j ∧ Hid (L = (t.sets.take j).map (sVal xs) ∧ L.length = j) ∧ Own 3 1 encI wr wo.heap.size v L ∧ Below wo.heap.size wo wr) (fun _ i _ => ns - (intOf i).toNat)
    case atStart => exact ⟨0,[],by omega,rfl,⟨rfl,rfl⟩,Own.nil,Below.refl _ _⟩
    case round =>
     obtain ⟨j,L,hj,rfl,hL,hown,HBs⟩ := hrel
     clear HC
     have HBd2 := Bel.step HBd HBs
     have HBw2 := Bel.step HBw HBs
     have HC := ro_cells HBd2
     have e0 : wr.cell? ⟨w1.heap.size,0,none⟩ = some (.bool true) := (HBs.cell (by simp;omega)).trans d0
     have e1 : wr.cell? ⟨w1.heap.size,1,none⟩ = some (.slice va nr vc) := (HBs.cell (by simp;omega)).trans d1
     by_cases hjt : j < ns
     ·obtain ⟨b,o,key,op,ak,an,bk,bn,rfl,hbx,hx,c0,c1,c2,c3,c4,c5⟩ := get_set (hBs.below HBw2) hjt
      have hge := Lib.hid (hp.out.2.2.2.2 _ (List.mem_of_getElem? hx.out))
      have i1 : (0 : Int) ≤ (j : Int) := by omega
      have i2 : (j : Int) < (ns : Int) := by omega
      have hsS : ∀ W,Below wr.heap.size wr W → Below wr.heap.size wr W ∧ W.cell? ⟨w.heap.size,2,none⟩ = some (.slice (some ⟨b,o,none⟩) ns sc) ∧ W.cell? ⟨b,o + j * 6 + 1,none⟩ = some (.int .i64 op) ∧ W.cell? ⟨b,o + j * 6 + 2,none⟩ = some (.int .i64 ak) ∧ W.cell? ⟨b,o + j * 6 + 3,none⟩ = some (.int .i64 an) ∧ W.cell? ⟨b,o + j * 6 + 4,none⟩ = some (.int .i64 bk) ∧ W.cell? ⟨b,o + j * 6 + 5,none⟩ = some (.int .i64 bn) ∧ Rd 1 encI W xa nr xs := fun W hW =>
       ⟨hW,(hW.cell (by simp;omega)).trans HC.2.2.1,(hW.cell hbx).trans c1,(hW.cell hbx).trans c2,(hW.cell hbx).trans c3,(hW.cell hbx).trans c4,(hW.cell hbx).trans c5,hBx.below (Bel.step HBw2 hW)⟩
      have hsT : ∀ W,Below wr.heap.size wr W ∧ W.cell? ⟨w.heap.size,2,none⟩ = some (.slice (some ⟨b,o,none⟩) ns sc) ∧ W.cell? ⟨b,o + j * 6 + 1,none⟩ = some (.int .i64 op) ∧ W.cell? ⟨b,o + j * 6 + 2,none⟩ = some (.int .i64 ak) ∧ W.cell? ⟨b,o + j * 6 + 3,none⟩ = some (.int .i64 an) ∧ W.cell? ⟨b,o + j * 6 + 4,none⟩ = some (.int .i64 bk) ∧ W.cell? ⟨b,o + j * 6 + 5,none⟩ = some (.int .i64 bn) ∧ Rd 1 encI W xa nr xs → Rd 1 encI W xa nr xs := fun W hq => hq.2.2.2.2.2.2.2
      have hga : Hid (checkOp ak an nr = 0) := by have h5 := hge.out.2.1;rw [hRl.out] at h5;exact h5
      have hgb : Hid (checkOp bk bn nr = 0) := by have h5 := hge.out.2.2;rw [hRl.out] at h5;exact h5
      have hval : Hid (sVal xs ⟨key,op,⟨ak,an⟩,⟨bk,bn⟩⟩ = reckonN op (valueOf ak an xs) (valueOf bk bn xs)) := (rfl : _ = _)
      have hLl : L.length ≤ j := by rw [hL.out.2];omega
      have hj48 : ns ≤ 3 := by have h6 := hp.out.1.2.2.2;have h7 := hH2.out;omega
      go_wp2
      go_region_held3 (fun W => Below wr.heap.size wr W ∧ W.cell? ⟨w.heap.size,2,none⟩ = some (.slice (some ⟨b,o,none⟩) ns sc) ∧ W.cell? ⟨b,o + j * 6 + 1,none⟩ = some (.int .i64 op) ∧ W.cell? ⟨b,o + j * 6 + 2,none⟩ = some (.int .i64 ak) ∧ W.cell? ⟨b,o + j * 6 + 3,none⟩ = some (.int .i64 an) ∧ W.cell? ⟨b,o + j * 6 + 4,none⟩ = some (.int .i64 bk) ∧ W.cell? ⟨b,o + j * 6 + 5,none⟩ = some (.int .i64 bn) ∧ Rd 1 encI W xa nr xs)
       (first | exact hsS _ HR | exact hsS _ (Below.refl _ _).drew)
       (first
        | (go_at_call_of 143 (Value.agg #[.int .i64 ak,.int .i64 an]);have q3 := hsT _ (by assumption);refine (qk ak an _ _ _ xs _ (by omega) q3 hga.out).mono ?_;rintro e w5 ⟨rfl,hb⟩;have HR := Rg.step (by assumption) hb)
        | (go_at_call_of 143 (Value.agg #[.int .i64 bk,.int .i64 bn]);have q3 := hsT _ (by assumption);refine (qk bk bn _ _ _ xs _ (by omega) q3 hgb.out).mono ?_;rintro e w5 ⟨rfl,hb⟩;have HR := Rg.step (by assumption) hb)
        | (go_at_call 144;refine (ref_ReckonOf _ _ _ _).mono ?_;rintro e w' ⟨rfl,rfl⟩))
      have hown5 := hown.below HR
      have HB5 := Bel.step HBs HR
      go_wp2_with (at_builtin;go_loud (refine wpList_append_own _ rfl (.tmp 94) (.tmp 96) 34 rfl wo.heap.size 3 i0 (.int .i64 0) 1 8 Tryz.underlying34 hi0 hz0 hz1 hz2 rfl (by decide) _ _ _ rfl (hown5.alloc _).out ⟨w5.heap.size,0,none⟩ 1 1 (encI (reckonN op (valueOf ak an xs) (valueOf bk bn xs))) rfl rfl (news_blk rfl) (by simp [encI,Value.oneCell']) (by unfold maxLen;omega) (by omega) (by have h8 := HB5.size;simp only [World.size_alloc] at h8 ⊢;omega) ?_);intro v' w6 hown1 hgrow1 _;replace hown1 := Own.push hown1;have HB6 := Own.frame (hown5.alloc _) (Bel.alloc HB5 _) (Nat.le_refl _) hgrow1)
      go_roundw
      case rel => exact ⟨j + 1,L ++ [reckonN op (valueOf ak an xs) (valueOf bk bn xs)],by omega,by go_num,⟨by rw [hL.out.1,yI hx.out,List.map_append,List.map_cons,List.map_nil,hval.out],by rw [List.length_append,hL.out.2];rfl⟩,hown1,HB6⟩
      case measure => simp [intOf];omega
     ·have hkn : Hid (j = ns) := Nat.le_antisymm hj (Nat.le_of_not_lt hjt)
      go_wp2
      (try simp only [Exit.inBlock,Exit.then])
      have hR := j9 (x := .bool true) (y := .slice va nr vc) HC.2.2.2.1 HC.2.2.2.2.1
      refine bodyPost_ret (by simp [results,Tryz.results105,go_sem,hR.1,hR.2];rfl) rfl ?_
      have hls : L = runSets t xs := by rw [runSets,if_pos hrd.out,hL.out.1,hkn.out,List.take_of_length_le (by rw [hH2.out];omega)]
      rw [hls] at hown
      refine ⟨_,_,by rw [hrd.out],?_,?_,?_⟩
      ·exact (((hv3.below HBw2).setLow (by simp) _).setLow (by simp) _).base (by omega)
      ·exact ((hown.setLow (by simp;omega) _).setLow (by simp;omega) _).base (by omega)
      ·exact ((ro_below HBd2).setCell (by simp) _).setCell (by simp) _
end Go.Proofs.YtjgmbgfcffnanaaGreatDoor
