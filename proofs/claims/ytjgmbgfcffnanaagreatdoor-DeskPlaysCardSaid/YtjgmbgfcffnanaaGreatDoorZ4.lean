/- The walk over txn.Check. -/
import Derived.Test.YtjgmbgfcffnanaaGreatDoorZ3
set_option maxRecDepth 100000
set_option maxHeartbeats 4000000
namespace Go.Proofs.YtjgmbgfcffnanaaGreatDoor
open Go.RowKit
theorem qC (t : Txn) : (keysOf t).length = t.sets.length := by simp [keysOf]
theorem qv (ra ga sa : Option Addr) (nr rc ng gc ns sc : Nat) (t : Txn) (w : World) (h : TxnAt w ra nr ga ng sa ns t) :
 Calls Tryz.prog 147 #[.agg #[.slice ra nr rc,.slice ga ng gc,.slice sa ns sc]] w fun e w' => ∃ A c,e = .returned (.slice A ns c) ∧ Rd 1 encI w' A ns (keysOf t) ∧ Below w.heap.size w w' :=
 (txn_Keys ra ga sa nr rc ng gc ns sc t w h).mono fun e w' ⟨v,he,hv,hb⟩ => by
  obtain ⟨A,c,rfl,_,_,hr⟩ := hv.form oy
  have hl : (keysOf t).length = ns := by rw [qC];exact h.2.2.1.1
  rw [hl] at hr he
  exact ⟨A,c,he,hr,hb⟩
theorem jF {t : Txn} (h : ¬ sizesOk t) : checkTxn t = 2 := by unfold checkTxn;rw [if_neg h]
theorem cell_set {w : World} {p : Addr} {u v : Value} (h : w.cell? p = some u) : (w.setCell p v).cell? p = some v := by
 exact World.cell?_setCell_same w p v h
theorem ck_door {R : Ending → World → Prop} {T : Array Value} {p : Addr} {x y : Int} {wc : World} (hT : T[2]? = some (.pointer (some p))) (hp : p.block < wc.heap.size) (hc : wc.cell? p = some (.int .i64 y)) (hz : wc.frozen? p = false)
 (hR : ∀ w1,Below wc.heap.size wc w1 → R (.returned (.int .i64 x)) (w1.setCell p (.int .i64 x))) :
 bodyPostD Tryz.prog Tryz.f112 R (Exit.panic [{ v := .iface 213 (.agg #[.int .i64 x]),recovered := false }])
  { tmps := T,defers := [{ target := Target.fn (Fn.func 146) #[.pointer (some p)],args := #[] }] } wc := by
 refine leaves_cons (f := 146) (args := #[.pointer (some p)]) (by simp) (by simp [go_sem]) ?_
 refine (txn_catch_panic p x y _ hp hc hz).mono ?_
 rintro e u' w'' ⟨rfl,rfl,w1,hb,rfl⟩
 have h1 : (w1.setCell p (.int .i64 x)).cell? p = some (.int .i64 x) := cell_set ((hb.cell hp).trans hc)
 have h2 := hR w1 hb
 simp [Leaves,settle,results,Tryz.results112,go_sem]
 refine ⟨_,?_,h2⟩
 simp [hT,h1]
theorem ck_door_ok {R : Ending → World → Prop} {T : Array Value} {p : Addr} {x : Int} {wc : World} (hT : T[2]? = some (.pointer (some p))) (hp : p.block < wc.heap.size) (hc : wc.cell? p = some (.int .i64 x))
 (hR : ∀ w1,Below wc.heap.size wc w1 → R (.returned (.int .i64 x)) w1) :
 bodyPostD Tryz.prog Tryz.f112 R Exit.ret
  { tmps := T,defers := [{ target := Target.fn (Fn.func 146) #[.pointer (some p)],args := #[] }] } wc := by
 refine leaves_cons (f := 146) (args := #[.pointer (some p)]) (by simp) (by simp [go_sem]) ?_
 refine (txn_catch_idle p _).mono ?_
 rintro e u' w1 ⟨rfl,rfl,hb⟩
 have h1 : w1.cell? p = some (.int .i64 x) := (hb.cell hp).trans hc
 have h2 := hR w1 hb
 simp [Leaves,settle,results,Tryz.results112,go_sem]
 refine ⟨_,?_,h2⟩
 simp [hT,h1]
def ckW (w : World) (ra : Option Addr) (nr rc : Nat) (ga : Option Addr) (ng gc : Nat) (sa : Option Addr) (ns sc : Nat) : World :=
 (w.alloc (.cells #[.slice ra nr rc,.slice ga ng gc,.slice sa ns sc] 75)).alloc (.cells #[.int .i64 0] 22)
theorem ckW_eq (w : World) (ra nr rc ga ng gc sa ns sc) : (w.alloc (.cells #[.slice ra nr rc,.slice ga ng gc,.slice sa ns sc] 75)).alloc (.cells #[.int .i64 0] 22) = ckW w ra nr rc ga ng gc sa ns sc := rfl
section
variable {w wc : World} {ra : Option Addr} {nr rc : Nat} {ga : Option Addr} {ng gc : Nat} {sa : Option Addr} {ns sc : Nat}
theorem yM : (ckW w ra nr rc ga ng gc sa ns sc).heap.size = w.heap.size + 2 := by simp [ckW]
theorem ckW_cell : (ckW w ra nr rc ga ng gc sa ns sc).cell? ⟨w.heap.size + 1,0,none⟩ = some (.int .i64 0) := by simp [ckW,go_sem]
theorem ckW_free : (ckW w ra nr rc ga ng gc sa ns sc).frozen? ⟨w.heap.size + 1,0,none⟩ = false := by simp [ckW,go_sem]
theorem ckW_below : Below w.heap.size w (ckW w ra nr rc ga ng gc sa ns sc) := Bel.alloc (Bel.alloc (Below.refl _ _) _) _
theorem ck_below (h : Below (ckW w ra nr rc ga ng gc sa ns sc).heap.size (ckW w ra nr rc ga ng gc sa ns sc) wc) : Below w.heap.size w wc := Bel.step ckW_below h
theorem yc (h : Below (ckW w ra nr rc ga ng gc sa ns sc).heap.size (ckW w ra nr rc ga ng gc sa ns sc) wc) :
 wc.cell? ⟨w.heap.size,0,none⟩ = some (.slice ra nr rc) ∧ wc.cell? ⟨w.heap.size,1,none⟩ = some (.slice ga ng gc) ∧ wc.cell? ⟨w.heap.size,2,none⟩ = some (.slice sa ns sc) ∧
 wc.cell? ⟨w.heap.size + 1,0,none⟩ = some (.int .i64 0) ∧ wc.frozen? ⟨w.heap.size + 1,0,none⟩ = false ∧ w.heap.size < wc.heap.size ∧ w.heap.size + 1 < wc.heap.size ∧ w.heap.size ≤ wc.heap.size ∧ (∀ n,w.heap.size < wc.heap.size + n) ∧ (∀ n,w.heap.size + 1 < wc.heap.size + n) := by
 have hs := h.size
 rw [yM] at hs
 refine ⟨(h.cell (by rw [yM];simp)).trans ?_,(h.cell (by rw [yM];simp)).trans ?_,(h.cell (by rw [yM];simp)).trans ?_,(h.cell (by rw [yM];simp)).trans ckW_cell,(h.frozen (by rw [yM];simp)).trans ckW_free,by omega,by omega,by omega,fun n => by omega,fun n => by omega⟩
 all_goals simp [ckW,go_sem]
theorem qX {T : Array Value} {x res : Int} (HBc : Below (ckW w ra nr rc ga ng gc sa ns sc).heap.size (ckW w ra nr rc ga ng gc sa ns sc) wc) (hx : x = res) (hT : T[2]? = some (.pointer (some ⟨w.heap.size + 1,0,none⟩))) :
 bodyPostD Tryz.prog Tryz.f112 (fun e w' => e = .returned (.int .i64 res) ∧ Below w.heap.size w w') (Exit.panic [{ v := .iface 213 (.agg #[.int .i64 x]),recovered := false }])
  { tmps := T,defers := [{ target := Target.fn (Fn.func 146) #[.pointer (some ⟨w.heap.size + 1,0,none⟩)],args := #[] }] } wc := by
 subst hx
 have hs := HBc.size
 rw [yM] at hs
 refine ck_door (y := 0) hT (by simp;omega) ((HBc.cell (by rw [yM];simp)).trans ckW_cell) ((HBc.frozen (by rw [yM];simp)).trans ckW_free) ?_
 intro w1 hb1
 exact ⟨rfl,(Bel.step (ck_below HBc) hb1).setCell (by simp) _⟩
theorem ck_fine {T : Array Value} {res : Int} (HBc : Below (ckW w ra nr rc ga ng gc sa ns sc).heap.size (ckW w ra nr rc ga ng gc sa ns sc) wc) (hx : res = 0) (hT : T[2]? = some (.pointer (some ⟨w.heap.size + 1,0,none⟩))) :
 bodyPostD Tryz.prog Tryz.f112 (fun e w' => e = .returned (.int .i64 res) ∧ Below w.heap.size w w') Exit.ret
  { tmps := T,defers := [{ target := Target.fn (Fn.func 146) #[.pointer (some ⟨w.heap.size + 1,0,none⟩)],args := #[] }] } (wc.setCell ⟨w.heap.size + 1,0,none⟩ (.int .i64 0)) := by
 subst hx
 have hs := HBc.size
 rw [yM] at hs
 refine ck_door_ok hT (by simp;omega) (cell_set ((HBc.cell (by rw [yM];simp)).trans ckW_cell)) ?_
 intro w1 hb1
 exact ⟨rfl,((ck_below HBc).setCell (by simp) _).trans (hb1.mono (by simp;omega))⟩
end
theorem txn_Check_sizes (ra ga sa : Option Addr) (nr rc ng gc ns sc : Nat) (t : Txn) (w : World) (h : TxnAt w ra nr ga ng sa ns t) (hno : ¬ (nr ≤ 4 ∧ ng ≤ 2 ∧ 0 < ns ∧ ns ≤ 3)) :
 Calls Tryz.prog 112 #[.agg #[.slice ra nr rc,.slice ga ng gc,.slice sa ns sc]] w fun e w' => e = .returned (.int .i64 2) ∧ Below w.heap.size w w' := by
 have hmf : ∀ (fn : Fn) (first cap : Array Value) (w : World),(Instr.makeFunc fn first cap).run Tryz.prog w = .ok (.func fn first cap) w := fun _ _ _ _ => rfl
 have hW := ((h.alloc (.cells #[.slice ra nr rc,.slice ga ng gc,.slice sa ns sc] 75)).alloc (.cells #[.int .i64 0] 22))
 go_enter_defers Tryz.func112,Tryz.ntmps112
 go_wp2_with (first
  | (go_at_call 147;refine (qv _ _ _ _ _ _ _ _ _ t _ hW).mono ?_;rintro e w1 ⟨A,c,rfl,hrd,hb⟩;have HC := bcell hb)
  | (go_at_call 149;refine (yi _ _ _).mono ?_;rintro e w' ⟨rfl,rfl⟩)
  | (go_at_call 148;refine (uf _ 1 _ [2] _ (by omega) (by exact Rd.new _ oy (by simp) rfl rfl) (by decide)).mono ?_;rintro e w' ⟨rfl,rfl⟩))
 all_goals exact qX (ra := ra) (nr := nr) (rc := rc) (ga := ga) (ng := ng) (gc := gc) (sa := sa) (ns := ns) (sc := sc) (by rw [← ckW_eq];exact (by repeat (first | exact Below.refl _ _ | refine Bel.step ?_ (by assumption) | refine Bel.alloc ?_ _ | refine Bel.drew ?_ | refine Bel.drewN ?_ _))) (by rfl) rfl
theorem slices_Concat_rd (g c A1 n1 c1 A2 n2 c2) (xs1 xs2 : List Int) (w : World) (hg : g < w.heap.size) (g0 : w.cell? ⟨g,0,none⟩ = some (.slice A1 n1 c1)) (g1 : w.cell? ⟨g,1,none⟩ = some (.slice A2 n2 c2))
 (h1 : Rd 1 encI w A1 n1 xs1) (h2 : Rd 1 encI w A2 n2 xs2) (hn : n1 + n2 ≤ 8796093022208) :
 Calls Tryz.prog 150 #[.slice (some ⟨g,0,none⟩) 2 c] w fun e w' => ∃ A c,e = .returned (.slice A (n1 + n2) c) ∧ Rd 1 encI w' A (n1 + n2) (xs1 ++ xs2) ∧ Below w.heap.size w w' :=
 (slices_Concat_int g c A1 n1 c1 A2 n2 c2 xs1 xs2 w hg g0 g1 h1 h2 hn).mono fun e w' ⟨v,he,hv,hb⟩ => by
  obtain ⟨A,c,rfl,_,_,hr⟩ := hv.form oy
  have hl : (xs1 ++ xs2).length = n1 + n2 := by rw [List.length_append,h1.1,h2.1]
  rw [hl] at hr he
  exact ⟨A,c,he,hr,hb⟩
theorem un (g c : Nat) (A1 : Option Addr) (n1 c1 : Nat) (A2 : Option Addr) (n2 c2 : Nat) (tt : TypeId) (xs1 xs2 : List Int) (W : World) (hg : g = W.heap.size) (h1 : Rd 1 encI W A1 n1 xs1) (h2 : Rd 1 encI W A2 n2 xs2) (hn : n1 + n2 ≤ 8796093022208) :
 Calls Tryz.prog 150 #[.slice (some ⟨g,0,none⟩) 2 c] (W.alloc (.cells #[.slice A1 n1 c1,.slice A2 n2 c2] tt)) fun e w' => ∃ A c,e = .returned (.slice A (n1 + n2) c) ∧ Rd 1 encI w' A (n1 + n2) (xs1 ++ xs2) ∧ Below (W.alloc (.cells #[.slice A1 n1 c1,.slice A2 n2 c2] tt)).heap.size (W.alloc (.cells #[.slice A1 n1 c1,.slice A2 n2 c2] tt)) w' := by
 subst hg
 exact slices_Concat_rd _ c A1 n1 c1 A2 n2 c2 xs1 xs2 _ (by simp) (by simp [World.cell?_alloc_new]) (by simp [World.cell?_alloc_new]) (h1.alloc _) (h2.alloc _) hn
theorem vk {t : Txn} (hs : sizesOk t) (h : (t.reads ++ keysOf t).all isKeyB = false) : checkTxn t = 3 := by unfold checkTxn;rw [if_pos hs,h];rfl
theorem jH {x : Int} (h : isKeyB x = true) : 0 ≤ x ∧ x < 8 := by simp [isKeyB] at h;omega
theorem isKeyB_false {x : Int} (h : isKeyB x = false) : ¬ (0 ≤ x ∧ x < 8) := by simp [isKeyB] at h;omega
def KeysTo (k : Nat) (l : List Int) : Prop := ∀ j x,j < k → l[j]? = some x → isKeyB x = true
theorem KeysTo.next {k : Nat} {l : List Int} {x : Int} (h : KeysTo k l) (hx : l[k]? = some x) (hk : isKeyB x = true) : KeysTo (k + 1) l := by
 intro j y hj hy
 rcases Nat.lt_or_ge j k with h1 | h1
 ·exact h j y h1 hy
 ·obtain rfl : j = k := by omega
  rw [hx] at hy;injection hy with hy;rw [← hy];exact hk
theorem KeysTo.all {k : Nat} {l : List Int} (h : KeysTo k l) (hl : l.length ≤ k) : l.all isKeyB = true := by
 rw [List.all_eq_true]
 intro x hx
 obtain ⟨i,hi⟩ := List.getElem?_of_mem hx
 exact h i x (by have := (List.getElem?_eq_some_iff.1 hi).1;omega) hi
theorem txn_Check_keys (ra ga sa : Option Addr) (nr rc ng gc ns sc : Nat) (t : Txn) (w : World) (h : TxnAt w ra nr ga ng sa ns t) (hr4 : nr ≤ 4) (hg2 : ng ≤ 2) (hs0 : 0 < ns) (hs3 : ns ≤ 3) (hno : (t.reads ++ keysOf t).all isKeyB = false) :
 Calls Tryz.prog 112 #[.agg #[.slice ra nr rc,.slice ga ng gc,.slice sa ns sc]] w fun e w' => e = .returned (.int .i64 3) ∧ Below w.heap.size w w' := by
 have hmf : ∀ (fn : Fn) (first cap : Array Value) (w : World),(Instr.makeFunc fn first cap).run Tryz.prog w = .ok (.func fn first cap) w := fun _ _ _ _ => rfl
 have hW := ((h.alloc (.cells #[.slice ra nr rc,.slice ga ng gc,.slice sa ns sc] 75)).alloc (.cells #[.int .i64 0] 22))
 have hNO := Lib.hid hno
 clear hno
 go_enter_defers Tryz.func112,Tryz.ntmps112
 go_wp2_with (first
  | (go_at_call 147;refine (qv _ _ _ _ _ _ _ _ _ t _ hW).mono ?_;rintro e w1 ⟨A,c,rfl,hrd,hb⟩;have hrr := hW.1.below hb;rw [ckW_eq] at hb;have HB := hb;have HC := yc hb;clear hb)
  | (go_at_call 149;refine (yi _ _ _).mono ?_;rintro e w' ⟨rfl,rfl⟩)
  | (go_at_call 148;refine (yn _ 1 _ [0] _ (by omega) (by exact Rd.new _ oy (by simp) rfl rfl) rfl).mono ?_;rintro e w' ⟨rfl,rfl⟩)
  | (go_at_call 150;refine (un _ _ _ _ _ _ _ _ _ t.reads (keysOf t) _ (World.size_alloc _ _).symm (hrr.alloc _) (hrd.alloc _) (by omega)).mono ?_;rintro e w2 ⟨A2,c2,rfl,hrd2,hb⟩;(first | (replace HB := Bel.step HB hb) | (replace HB := Bel.step (Bel.alloc HB _) hb) | (replace HB := Bel.step (Bel.alloc (Bel.alloc HB _) _) hb) | (replace HB := Bel.step (Bel.alloc (Bel.alloc (Bel.alloc HB _) _) _) hb) | (replace HB := Bel.step (Bel.alloc (Bel.alloc (Bel.alloc (Bel.alloc HB _) _) _) _) hb) | (replace HB := Bel.step (Bel.alloc (Bel.alloc (Bel.alloc (Bel.alloc (Bel.alloc HB _) _) _) _) _) hb) | (replace HB := Bel.step (Bel.alloc (Bel.alloc (Bel.alloc (Bel.alloc (Bel.alloc (Bel.alloc HB _) _) _) _) _) _) hb) | (replace HB := Bel.step (Bel.drew HB) hb) | (replace HB := Bel.step (Bel.drewN HB _) hb) | (replace HB := Bel.step (Bel.alloc (Bel.drewN HB _) _) hb));replace HC := yc HB;clear hb))
 have hs2 := hrd2.2
 have hN := Lib.hid hrd2.1
 go_loopw [47] (fun i wr => ∃ k : Nat,k ≤ nr + ns ∧ i = .int .i64 k ∧ KeysTo k (t.reads ++ keysOf t) ∧ Below (ckW w ra nr rc ga ng gc sa ns sc).heap.size (ckW w ra nr rc ga ng gc sa ns sc) wr ∧ Below w2.heap.size w2 wr) (fun i _ => nr + ns - (intOf i).toNat)
 case atStart => exact ⟨0,by omega,rfl,fun j x hj => by omega,HB,Below.refl _ _⟩
 case round =>
  obtain ⟨k,hk,rfl,hK,HBr,HB2⟩ := hrel
  clear HC
  have HC := yc HBr
  by_cases hlt : k < nr + ns
  ·have hsr := hs2.below HB2
   obtain ⟨b,o,x,rfl,hbx,hx,hc⟩ := hsr.int (i := k) (by have := hN.out;omega)
   cases hxk : isKeyB x with
   | true =>
    obtain ⟨x1,x2⟩ := jH hxk
    have hK2 := hK.next hx.out hxk
    clear hxk
    go_wp2_with (first
     | (go_at_call 149;refine (yi _ _ _).mono ?_;rintro e w' ⟨rfl,rfl⟩)
     | (go_at_call 148;refine (yn _ 1 _ [0] _ (by omega) (by exact Rd.new _ oy (by simp) rfl rfl) rfl).mono ?_;rintro e w' ⟨rfl,rfl⟩))
    go_roundw
    case rel => exact ⟨k + 1,by omega,by go_num,hK2,Bel.alloc HBr _,Bel.alloc HB2 _⟩
    case measure => simp [intOf];omega
   | false =>
    have x1 := isKeyB_false hxk
    clear hxk
    go_wp2_with (first
     | (go_at_call 149;refine (yi _ _ _).mono ?_;rintro e w' ⟨rfl,rfl⟩)
     | (go_at_call 148;refine (uf _ 1 _ [3] _ (by omega) (by exact Rd.new _ oy (by simp) rfl rfl) (by decide)).mono ?_;rintro e w' ⟨rfl,rfl⟩))
    all_goals exact qX (ra := ra) (nr := nr) (rc := rc) (ga := ga) (ng := ng) (gc := gc) (sa := sa) (ns := ns) (sc := sc) (Bel.alloc HBr _) (by rfl) rfl
  ·exfalso
   have := hK.all (by have := hN.out;omega)
   rw [hNO.out] at this
   cases this
theorem uO {t : Txn} (hs : sizesOk t) (h : (t.reads ++ keysOf t).all isKeyB = true) (hr : (rising t.reads && rising (keysOf t)) = false) : checkTxn t = 1 := by unfold checkTxn;rw [if_pos hs,h,if_pos rfl,hr];rfl
theorem txn_Check_rising (ra ga sa : Option Addr) (nr rc ng gc ns sc : Nat) (t : Txn) (w : World) (h : TxnAt w ra nr ga ng sa ns t) (hr4 : nr ≤ 4) (hg2 : ng ≤ 2) (hs0 : 0 < ns) (hs3 : ns ≤ 3) (hall : (t.reads ++ keysOf t).all isKeyB = true)
 (hri : (rising t.reads && rising (keysOf t)) = false) :
 Calls Tryz.prog 112 #[.agg #[.slice ra nr rc,.slice ga ng gc,.slice sa ns sc]] w fun e w' => e = .returned (.int .i64 1) ∧ Below w.heap.size w w' := by
 have hmf : ∀ (fn : Fn) (first cap : Array Value) (w : World),(Instr.makeFunc fn first cap).run Tryz.prog w = .ok (.func fn first cap) w := fun _ _ _ _ => rfl
 have hW := ((h.alloc (.cells #[.slice ra nr rc,.slice ga ng gc,.slice sa ns sc] 75)).alloc (.cells #[.int .i64 0] 22))
 have hNO := Lib.hid (List.all_eq_true.1 hall)
 clear hall
 go_enter_defers Tryz.func112,Tryz.ntmps112
 go_wp2_with (first
  | (go_at_call 147;refine (qv _ _ _ _ _ _ _ _ _ t _ hW).mono ?_;rintro e w1 ⟨A,c,rfl,hrd,hb⟩;have hrr := hW.1.below hb;have hrg := hW.2.1.below hb;have hrs := hW.2.2.1.below hb;rw [ckW_eq] at hb;have HB := hb;have HC := yc hb;clear hb)
  | (go_at_call 149;refine (yi _ _ _).mono ?_;rintro e w' ⟨rfl,rfl⟩)
  | (go_at_call 148;refine (yn _ 1 _ [0] _ (by omega) (by exact Rd.new _ oy (by simp) rfl rfl) rfl).mono ?_;rintro e w' ⟨rfl,rfl⟩)
  | (go_at_call 150;refine (un _ _ _ _ _ _ _ _ _ t.reads (keysOf t) _ (World.size_alloc _ _).symm (hrr.alloc _) (hrd.alloc _) (by omega)).mono ?_;rintro e w2 ⟨A2,c2,rfl,hrd2,hb⟩;have HB1 := Below.trans (Bel.alloc (Bel.alloc (Below.refl w1.heap.size w1) _) _) (hb.mono (by simp;omega));(first | (replace HB := Bel.step HB hb) | (replace HB := Bel.step (Bel.alloc HB _) hb) | (replace HB := Bel.step (Bel.alloc (Bel.alloc HB _) _) hb) | (replace HB := Bel.step (Bel.alloc (Bel.alloc (Bel.alloc HB _) _) _) hb) | (replace HB := Bel.step (Bel.alloc (Bel.alloc (Bel.alloc (Bel.alloc HB _) _) _) _) hb) | (replace HB := Bel.step (Bel.alloc (Bel.alloc (Bel.alloc (Bel.alloc (Bel.alloc HB _) _) _) _) _) hb) | (replace HB := Bel.step (Bel.alloc (Bel.alloc (Bel.alloc (Bel.alloc (Bel.alloc (Bel.alloc HB _) _) _) _) _) _) hb) | (replace HB := Bel.step (Bel.drew HB) hb) | (replace HB := Bel.step (Bel.drewN HB _) hb) | (replace HB := Bel.step (Bel.alloc (Bel.drewN HB _) _) hb));replace HC := yc HB;clear hb))
 have hs2 := hrd2.2
 have hN := Lib.hid hrd2.1
 go_loopw [47] (fun i wr => ∃ k : Nat,k ≤ nr + ns ∧ i = .int .i64 k ∧ Below (ckW w ra nr rc ga ng gc sa ns sc).heap.size (ckW w ra nr rc ga ng gc sa ns sc) wr ∧ Below w2.heap.size w2 wr) (fun i _ => nr + ns - (intOf i).toNat)
 case atStart => exact ⟨0,by omega,rfl,HB,Below.refl _ _⟩
 case round =>
  obtain ⟨k,hk,rfl,HBr,HB2⟩ := hrel
  clear HC
  have HC := yc HBr
  by_cases hlt : k < nr + ns
  ·have hsr := hs2.below HB2
   obtain ⟨b,o,x,rfl,hbx,hx,hc⟩ := hsr.int (i := k) (by have := hN.out;omega)
   obtain ⟨x1,x2⟩ := jH (hNO.out x (List.mem_of_getElem? hx.out))
   go_wp2_with (first
    | (go_at_call 149;refine (yi _ _ _).mono ?_;rintro e w' ⟨rfl,rfl⟩)
    | (go_at_call 148;refine (yn _ 1 _ [0] _ (by omega) (by exact Rd.new _ oy (by simp) rfl rfl) rfl).mono ?_;rintro e w' ⟨rfl,rfl⟩))
   go_roundw
   case rel => exact ⟨k + 1,by omega,by go_num,Bel.alloc HBr _,Bel.alloc HB2 _⟩
   case measure => simp [intOf];omega
  ·have HBx : Below w1.heap.size w1 wr := HB1.trans (HB2.mono HB1.size)
   have q1 := hrr.below HBx
   have q2 := hrd.below HBx
   clear HB
   have HB := HBr
   cases hq : rising t.reads with
   | false =>
    go_wp2_with (first
     | (go_at_call 151;refine (qd _ _ _ t.reads _ (by omega) q1).mono ?_;rintro e w' ⟨rfl,hb⟩;(first | (replace HB := Bel.step HB hb) | (replace HB := Bel.step (Bel.alloc HB _) hb) | (replace HB := Bel.step (Bel.alloc (Bel.alloc HB _) _) hb) | (replace HB := Bel.step (Bel.alloc (Bel.alloc (Bel.alloc HB _) _) _) hb) | (replace HB := Bel.step (Bel.alloc (Bel.alloc (Bel.alloc (Bel.alloc HB _) _) _) _) hb) | (replace HB := Bel.step (Bel.alloc (Bel.alloc (Bel.alloc (Bel.alloc (Bel.alloc HB _) _) _) _) _) hb) | (replace HB := Bel.step (Bel.alloc (Bel.alloc (Bel.alloc (Bel.alloc (Bel.alloc (Bel.alloc HB _) _) _) _) _) _) hb) | (replace HB := Bel.step (Bel.drew HB) hb) | (replace HB := Bel.step (Bel.drewN HB _) hb) | (replace HB := Bel.step (Bel.alloc (Bel.drewN HB _) _) hb));replace HC := yc HB;clear hb)
     | (go_at_call 149;refine (yi _ _ _).mono ?_;rintro e w' ⟨rfl,rfl⟩)
     | (go_at_call 148;refine (uf _ 1 _ [1] _ (by omega) (by exact Rd.new _ oy (by simp) rfl rfl) (by decide)).mono ?_;rintro e w' ⟨rfl,rfl⟩))
    exact qX (ra := ra) (nr := nr) (rc := rc) (ga := ga) (ng := ng) (gc := gc) (sa := sa) (ns := ns) (sc := sc) (Bel.alloc HB _) (by rfl) rfl
   | true =>
    have hq2 : rising (keysOf t) = false := by rw [hq] at hri;simpa using hri
    clear hri
    go_wp2_with (first
     | (go_at_call_of 151 (Value.slice ra nr rc);refine (qd _ _ _ t.reads _ (by omega) q1).mono ?_;rintro e w' ⟨rfl,hb⟩;have q3 := q2.below hb;(first | (replace HB := Bel.step HB hb) | (replace HB := Bel.step (Bel.alloc HB _) hb) | (replace HB := Bel.step (Bel.alloc (Bel.alloc HB _) _) hb) | (replace HB := Bel.step (Bel.alloc (Bel.alloc (Bel.alloc HB _) _) _) hb) | (replace HB := Bel.step (Bel.alloc (Bel.alloc (Bel.alloc (Bel.alloc HB _) _) _) _) hb) | (replace HB := Bel.step (Bel.alloc (Bel.alloc (Bel.alloc (Bel.alloc (Bel.alloc HB _) _) _) _) _) hb) | (replace HB := Bel.step (Bel.alloc (Bel.alloc (Bel.alloc (Bel.alloc (Bel.alloc (Bel.alloc HB _) _) _) _) _) _) hb) | (replace HB := Bel.step (Bel.drew HB) hb) | (replace HB := Bel.step (Bel.drewN HB _) hb) | (replace HB := Bel.step (Bel.alloc (Bel.drewN HB _) _) hb));replace HC := yc HB;clear hb)
     | (go_at_call_of 151 (Value.slice A ns c);refine (qd _ _ _ (keysOf t) _ (by omega) q3).mono ?_;rintro e w' ⟨rfl,hb⟩;(first | (replace HB := Bel.step HB hb) | (replace HB := Bel.step (Bel.alloc HB _) hb) | (replace HB := Bel.step (Bel.alloc (Bel.alloc HB _) _) hb) | (replace HB := Bel.step (Bel.alloc (Bel.alloc (Bel.alloc HB _) _) _) hb) | (replace HB := Bel.step (Bel.alloc (Bel.alloc (Bel.alloc (Bel.alloc HB _) _) _) _) hb) | (replace HB := Bel.step (Bel.alloc (Bel.alloc (Bel.alloc (Bel.alloc (Bel.alloc HB _) _) _) _) _) hb) | (replace HB := Bel.step (Bel.alloc (Bel.alloc (Bel.alloc (Bel.alloc (Bel.alloc (Bel.alloc HB _) _) _) _) _) _) hb) | (replace HB := Bel.step (Bel.drew HB) hb) | (replace HB := Bel.step (Bel.drewN HB _) hb) | (replace HB := Bel.step (Bel.alloc (Bel.drewN HB _) _) hb));replace HC := yc HB;clear hb)
     | (go_at_call 149;refine (yi _ _ _).mono ?_;rintro e w' ⟨rfl,rfl⟩)
     | (go_at_call 148;refine (uf _ 1 _ [1] _ (by omega) (by exact Rd.new _ oy (by simp) rfl rfl) (by decide)).mono ?_;rintro e w' ⟨rfl,rfl⟩))
    exact qX (ra := ra) (nr := nr) (rc := rc) (ga := ga) (ng := ng) (gc := gc) (sa := sa) (ns := ns) (sc := sc) (Bel.alloc HB _) (by rfl) rfl
def QFree (R : List PanicEntry → World → Prop) (D : List Deferred) (Q : Exit → Act → World → Prop) : Exit → Act → World → Prop
 | .panic c,a,w => R c w ∧ a.defers = D
 | e,a,w => Q e a w
theorem qR {a : Act} {d : Option Tmp} {v u : Value} {s : Nat} (hs : a.tmps[s]? = some u) (hd : d ≠ some s) : (a.put d v).tmps[s]? = some u := by
 cases d with
 | none => exact hs
 | some d =>
  have hne : d ≠ s := fun e => hd (by rw [e])
  show (a.tmps.setIfInBounds d v)[s]? = some u
  rw [Array.getElem?_setIfInBounds,if_neg hne]
  exact hs
section
variable {P : Program} {ops : Array Oper} {Q : Exit → Act → World → Prop} {md : Region.Mode} {R : List PanicEntry → World → Prop} {D : List Deferred} {s : Nat} {u : Value}
theorem letsOut_free (h : LetsOut (QFree R D Q)) : LetsOut Q := by
 obtain ⟨a,w,hq⟩ := h
 exact ⟨a,w,hq⟩
theorem oper_free (hR : ∀ c a w,a.tmps[s]? = some u → R c w → a.defers = D → Q (.panic c) a w) {o : Oper} (hd : o.dst ≠ some s) {a : Act} {w : World} (hs : a.tmps[s]? = some u) {K K' : Act → World → Prop}
 (hK : ∀ a w,a.tmps[s]? = some u → K a w → K' a w) (h : o.wp P a w K (QFree R D Q)) : o.wp P a w K' Q := by
 unfold Oper.wp at *
 generalize (execOp a.eval o).run P w = r at *
 cases r with
 | ok n w' =>
  cases n with
  | value v => exact hK _ _ (qR hs hd) h
  | skip => exact hK _ _ (qR hs hd) h
  | defer d => exact hK _ _ (qR (a := { a with defers := d :: a.defers }) hs hd) h
  | enter f args =>
   refine Calls.mono h (fun e w'' he => ?_)
   cases e with
   | returned v => exact hK _ _ (qR hs hd) he
   | panicked c => exact hR c a w'' hs he.1 he.2
   | outgrown => exact letsOut_free he
  | row row args => exact Rows.mono h (fun _ _ he => hK _ _ (qR hs hd) he)
  | _ => exact h
 | halt x w' =>
  cases x with
  | panic v => exact hR _ a w' hs h.1 h.2
  | _ => exact h
theorem jh (hR : ∀ c a w,a.tmps[s]? = some u → R c w → a.defers = D → Q (.panic c) a w) (hd : ∀ (i : Nat) (o : Oper),ops[i]? = some o → o.dst ≠ some s) :
 ∀ (fuel : Nat) (listed : Array Bool) (a : Act) (w : World),a.tmps[s]? = some u → wpAny P md ops (QFree R D Q) fuel listed a w → wpAny P md ops Q fuel listed a w
 | 0,_,_,_,_,h => h
 | fuel + 1,listed,a,w,hs,h => by
  refine ⟨h.1,fun i hi => ?_⟩
  have h2 := h.2 i hi
  unfold wpOp at *
  cases ho : ops[i]? with
  | none => simp only [ho] at h2 ⊢;exact jh hR hd fuel _ a w hs h2
  | some o =>
   simp only [ho] at h2 ⊢
   split
   ·rename_i hw
    simp only [hw,if_true] at h2
    rcases h2 with h2 | h2
    ·exact .inl (oper_free hR (hd i o ho) hs (fun a w hs' hk => jh hR hd fuel _ a w hs' hk) h2)
    ·exact .inr ⟨h2.1,letsOut_free h2.2⟩
   ·rename_i hw
    simp only [hw,if_false,Bool.false_eq_true] at h2
    exact jh hR hd fuel _ _ _ (qR hs (hd i o ho)) h2
theorem jE {S : World → Prop} {id : Nat} {a : Act} {w : World} (hm : P.follows .mixedOrders = true) (hd : (ops.toList.all fun o : Oper => o.dst != some s) = true) (hs : a.tmps[s]? = some u)
 (hR : ∀ c a w,a.tmps[s]? = some u → R c w → a.defers = D → Q (.panic c) a w) (hS : S w.drew) (h : S w.drew → wpAnyH P .any ops (QFree R D Q) S ops.size (Array.replicate ops.size false) a w.drew) : (Code.region id ops true).wp P Q a w := by
 refine wp_region_any hm (jh hR (fun i o ho => ?_) _ _ _ _ hs (wpAny_of_held _ _ _ _ (h hS)))
 have := List.all_eq_true.1 hd o (by have := Array.mem_of_getElem? ho;exact Array.mem_toList_iff.2 this)
 simpa using this
end
theorem u3 {α : Type} {l : List α} {F : α → List Int} {k : Nat} {x : α} (h0 : fe ((l.take k).flatMap F) = 0) (hx : l[k]? = some x) (h1 : fe (F x) = 0) : fe ((l.take (k + 1)).flatMap F) = 0 := by
 rw [yI hx,List.flatMap_append,ui,if_pos h0]
 simpa using h1
theorem ux {α : Type} {l : List α} {F : α → List Int} {k : Nat} {x : α} (h0 : fe ((l.take k).flatMap F) = 0) (hx : l[k]? = some x) (h1 : fe (F x) ≠ 0) (rest : List Int) : fe (l.flatMap F ++ rest) = fe (F x) := by
 have hk : k < l.length := (List.getElem?_eq_some_iff.1 hx).1
 have hd : l = l.take k ++ (x :: l.drop (k + 1)) := by
  have h1 : x :: l.drop (k + 1) = l.drop k := by
   rw [List.drop_eq_getElem_cons hk]
   rw [List.getElem?_eq_getElem hk] at hx
   injection hx with hx
   rw [hx]
  rw [h1,List.take_append_drop]
 have e : l.flatMap F = (l.take k).flatMap F ++ (F x ++ (l.drop (k + 1)).flatMap F) := by
  conv => lhs;rw [hd]
  rw [List.flatMap_append,List.flatMap_cons]
 rw [e,List.append_assoc,ui,if_pos h0,List.append_assoc,ui,if_neg h1]
theorem jN {t : Txn} (hs : sizesOk t) (h : (t.reads ++ keysOf t).all isKeyB = true) (hr : (rising t.reads && rising (keysOf t)) = true) : checkTxn t = fe (partErrs t) := by unfold checkTxn;rw [if_pos hs,h,if_pos rfl,hr];rfl
theorem get_guard {w : World} {A : Option Addr} {n k : Nat} {l : List Guard} (h : Rd 5 encG w A n l) (hk : k < n) :
 ∃ b o gk ak an bk bn,A = some ⟨b,o,none⟩ ∧ b < w.heap.size ∧ Hid (l[k]? = some ⟨gk,⟨ak,an⟩,⟨bk,bn⟩⟩) ∧ w.cell? ⟨b,o + k * 5,none⟩ = some (.int .i64 gk) ∧ w.cell? ⟨b,o + k * 5 + 1,none⟩ = some (.int .i64 ak) ∧ w.cell? ⟨b,o + k * 5 + 2,none⟩ = some (.int .i64 an) ∧
  w.cell? ⟨b,o + k * 5 + 3,none⟩ = some (.int .i64 bk) ∧ w.cell? ⟨b,o + k * 5 + 4,none⟩ = some (.int .i64 bn) := by
 obtain ⟨⟨gk,⟨ak,an⟩,⟨bk,bn⟩⟩,hx⟩ := get_of_lt h.1 hk
 obtain ⟨b,o,hA,hb,hc⟩ := h.2.at_ hx.out
 exact ⟨b,o,gk,ak,an,bk,bn,hA,hb,hx,hc 0 _ rfl,hc 1 _ rfl,hc 2 _ rfl,hc 3 _ rfl,hc 4 _ rfl⟩
theorem get_set {w : World} {A : Option Addr} {n k : Nat} {l : List SetT} (h : Rd 6 encS w A n l) (hk : k < n) :
 ∃ b o key op ak an bk bn,A = some ⟨b,o,none⟩ ∧ b < w.heap.size ∧ Hid (l[k]? = some ⟨key,op,⟨ak,an⟩,⟨bk,bn⟩⟩) ∧ w.cell? ⟨b,o + k * 6,none⟩ = some (.int .i64 key) ∧ w.cell? ⟨b,o + k * 6 + 1,none⟩ = some (.int .i64 op) ∧ w.cell? ⟨b,o + k * 6 + 2,none⟩ = some (.int .i64 ak) ∧ w.cell? ⟨b,o + k * 6 + 3,none⟩ = some (.int .i64 an) ∧
  w.cell? ⟨b,o + k * 6 + 4,none⟩ = some (.int .i64 bk) ∧ w.cell? ⟨b,o + k * 6 + 5,none⟩ = some (.int .i64 bn) := by
 obtain ⟨⟨key,op,⟨ak,an⟩,⟨bk,bn⟩⟩,hx⟩ := get_of_lt h.1 hk
 obtain ⟨b,o,hA,hb,hc⟩ := h.2.at_ hx.out
 exact ⟨b,o,key,op,ak,an,bk,bn,hA,hb,hx,hc 0 _ rfl,hc 1 _ rfl,hc 2 _ rfl,hc 3 _ rfl,hc 4 _ rfl,hc 5 _ rfl⟩
theorem gS {wr W : World} {gk ak an bk bn : Int} (h : Below (wr.alloc (.cells #[.int .i64 gk,.int .i64 ak,.int .i64 an,.int .i64 bk,.int .i64 bn] 83)).heap.size (wr.alloc (.cells #[.int .i64 gk,.int .i64 ak,.int .i64 an,.int .i64 bk,.int .i64 bn] 83)) W) :
 Below (wr.alloc (.cells #[.int .i64 gk,.int .i64 ak,.int .i64 an,.int .i64 bk,.int .i64 bn] 83)).heap.size (wr.alloc (.cells #[.int .i64 gk,.int .i64 ak,.int .i64 an,.int .i64 bk,.int .i64 bn] 83)) W ∧ W.cell? ⟨wr.heap.size,1,none⟩ = some (.int .i64 ak) ∧ W.cell? ⟨wr.heap.size,2,none⟩ = some (.int .i64 an) ∧ W.cell? ⟨wr.heap.size,3,none⟩ = some (.int .i64 bk) ∧ W.cell? ⟨wr.heap.size,4,none⟩ = some (.int .i64 bn) := by
 refine ⟨h,?_,?_,?_,?_⟩
 all_goals
  refine (h.cell (by simp)).trans ?_
  simp [World.cell?_alloc_new]
theorem sS {wr W : World} {key op ak an bk bn : Int} (h : Below (wr.alloc (.cells #[.int .i64 key,.int .i64 op,.int .i64 ak,.int .i64 an,.int .i64 bk,.int .i64 bn] 90)).heap.size (wr.alloc (.cells #[.int .i64 key,.int .i64 op,.int .i64 ak,.int .i64 an,.int .i64 bk,.int .i64 bn] 90)) W) :
 Below (wr.alloc (.cells #[.int .i64 key,.int .i64 op,.int .i64 ak,.int .i64 an,.int .i64 bk,.int .i64 bn] 90)).heap.size (wr.alloc (.cells #[.int .i64 key,.int .i64 op,.int .i64 ak,.int .i64 an,.int .i64 bk,.int .i64 bn] 90)) W ∧ W.cell? ⟨wr.heap.size,2,none⟩ = some (.int .i64 ak) ∧ W.cell? ⟨wr.heap.size,3,none⟩ = some (.int .i64 an) ∧ W.cell? ⟨wr.heap.size,4,none⟩ = some (.int .i64 bk) ∧ W.cell? ⟨wr.heap.size,5,none⟩ = some (.int .i64 bn) := by
 refine ⟨h,?_,?_,?_,?_⟩
 all_goals
  refine (h.cell (by simp)).trans ?_
  simp [World.cell?_alloc_new]
theorem txn_Check_parts (ra ga sa : Option Addr) (nr rc ng gc ns sc : Nat) (t : Txn) (w : World) (h : TxnAt w ra nr ga ng sa ns t) (hr4 : nr ≤ 4) (hg2 : ng ≤ 2) (hs0 : 0 < ns) (hs3 : ns ≤ 3) (hall : (t.reads ++ keysOf t).all isKeyB = true)
 (hri : (rising t.reads && rising (keysOf t)) = true) (res : Int) (hres : Hid (res = fe (t.guards.flatMap (gErrs nr) ++ t.sets.flatMap (sErrs nr)))) :
 Calls Tryz.prog 112 #[.agg #[.slice ra nr rc,.slice ga ng gc,.slice sa ns sc]] w fun e w' => e = .returned (.int .i64 res) ∧ Below w.heap.size w w' := by
 obtain ⟨hq1,hq2⟩ : rising t.reads = true ∧ rising (keysOf t) = true := by simpa using hri
 clear hri
 have hmf : ∀ (fn : Fn) (first cap : Array Value) (w : World),(Instr.makeFunc fn first cap).run Tryz.prog w = .ok (.func fn first cap) w := fun _ _ _ _ => rfl
 have hW := ((h.alloc (.cells #[.slice ra nr rc,.slice ga ng gc,.slice sa ns sc] 75)).alloc (.cells #[.int .i64 0] 22))
 have hNO := Lib.hid (List.all_eq_true.1 hall)
 clear hall
 go_enter_defers Tryz.func112,Tryz.ntmps112
 go_wp2_with (first
  | (go_at_call 147;refine (qv _ _ _ _ _ _ _ _ _ t _ hW).mono ?_;rintro e w1 ⟨A,c,rfl,hrd,hb⟩;have hrr := hW.1.below hb;have hrg := hW.2.1.below hb;have hrs := hW.2.2.1.below hb;rw [ckW_eq] at hb;have HB := hb;have HC := yc hb;clear hb)
  | (go_at_call 149;refine (yi _ _ _).mono ?_;rintro e w' ⟨rfl,rfl⟩)
  | (go_at_call 148;refine (yn _ 1 _ [0] _ (by omega) (by exact Rd.new _ oy (by simp) rfl rfl) rfl).mono ?_;rintro e w' ⟨rfl,rfl⟩)
  | (go_at_call 150;refine (un _ _ _ _ _ _ _ _ _ t.reads (keysOf t) _ (World.size_alloc _ _).symm (hrr.alloc _) (hrd.alloc _) (by omega)).mono ?_;rintro e w2 ⟨A2,c2,rfl,hrd2,hb⟩;have HB1 := Below.trans (Bel.alloc (Bel.alloc (Below.refl w1.heap.size w1) _) _) (hb.mono (by simp;omega));(first | (replace HB := Bel.step HB hb) | (replace HB := Bel.step (Bel.alloc HB _) hb) | (replace HB := Bel.step (Bel.alloc (Bel.alloc HB _) _) hb) | (replace HB := Bel.step (Bel.alloc (Bel.alloc (Bel.alloc HB _) _) _) hb) | (replace HB := Bel.step (Bel.alloc (Bel.alloc (Bel.alloc (Bel.alloc HB _) _) _) _) hb) | (replace HB := Bel.step (Bel.alloc (Bel.alloc (Bel.alloc (Bel.alloc (Bel.alloc HB _) _) _) _) _) hb) | (replace HB := Bel.step (Bel.alloc (Bel.alloc (Bel.alloc (Bel.alloc (Bel.alloc (Bel.alloc HB _) _) _) _) _) _) hb) | (replace HB := Bel.step (Bel.drew HB) hb) | (replace HB := Bel.step (Bel.drewN HB _) hb) | (replace HB := Bel.step (Bel.alloc (Bel.drewN HB _) _) hb));replace HC := yc HB;clear hb))
 have hs2 := hrd2.2
 have hN := Lib.hid hrd2.1
 go_loopw [47] (fun i wr => ∃ k : Nat,k ≤ nr + ns ∧ i = .int .i64 k ∧ Below (ckW w ra nr rc ga ng gc sa ns sc).heap.size (ckW w ra nr rc ga ng gc sa ns sc) wr ∧ Below w2.heap.size w2 wr) (fun i _ => nr + ns - (intOf i).toNat)
 case atStart => exact ⟨0,by omega,rfl,HB,Below.refl _ _⟩
 case round =>
  obtain ⟨k,hk,rfl,HBr,HB2⟩ := hrel
  clear HC
  have HC := yc HBr
  by_cases hlt : k < nr + ns
  ·have hsr := hs2.below HB2
   obtain ⟨b,o,x,rfl,hbx,hx,hc⟩ := hsr.int (i := k) (by have := hN.out;omega)
   obtain ⟨x1,x2⟩ := jH (hNO.out x (List.mem_of_getElem? hx.out))
   go_wp2_with (first
    | (go_at_call 149;refine (yi _ _ _).mono ?_;rintro e w' ⟨rfl,rfl⟩)
    | (go_at_call 148;refine (yn _ 1 _ [0] _ (by omega) (by exact Rd.new _ oy (by simp) rfl rfl) rfl).mono ?_;rintro e w' ⟨rfl,rfl⟩))
   go_roundw
   case rel => exact ⟨k + 1,by omega,by go_num,Bel.alloc HBr _,Bel.alloc HB2 _⟩
   case measure => simp [intOf];omega
  ·have HBx : Below w1.heap.size w1 wr := HB1.trans (HB2.mono HB1.size)
   have q1 := hrr.below HBx
   have q2 := hrd.below HBx
   have qg := hrg.below HBx
   have qs := hrs.below HBx
   clear HB
   have HB := HBr
   go_wp2_with (first
    | (go_at_call_of 151 (Value.slice ra nr rc);refine (qd _ _ _ t.reads _ (by omega) q1).mono ?_;rintro e w3 ⟨rfl,hb⟩;have q3 := q2.below hb;have qg3 := qg.below hb;have qs3 := qs.below hb;(first | (replace HB := Bel.step HB hb) | (replace HB := Bel.step (Bel.alloc HB _) hb) | (replace HB := Bel.step (Bel.alloc (Bel.alloc HB _) _) hb) | (replace HB := Bel.step (Bel.alloc (Bel.alloc (Bel.alloc HB _) _) _) hb) | (replace HB := Bel.step (Bel.alloc (Bel.alloc (Bel.alloc (Bel.alloc HB _) _) _) _) hb) | (replace HB := Bel.step (Bel.alloc (Bel.alloc (Bel.alloc (Bel.alloc (Bel.alloc HB _) _) _) _) _) hb) | (replace HB := Bel.step (Bel.alloc (Bel.alloc (Bel.alloc (Bel.alloc (Bel.alloc (Bel.alloc HB _) _) _) _) _) _) hb) | (replace HB := Bel.step (Bel.drew HB) hb) | (replace HB := Bel.step (Bel.drewN HB _) hb) | (replace HB := Bel.step (Bel.alloc (Bel.drewN HB _) _) hb));replace HC := yc HB;clear hb)
    | (go_at_call_of 151 (Value.slice A ns c);refine (qd _ _ _ (keysOf t) _ (by omega) q3).mono ?_;rintro e w4 ⟨rfl,hb⟩;have qg4 := qg3.below hb;have qs4 := qs3.below hb;(first | (replace HB := Bel.step HB hb) | (replace HB := Bel.step (Bel.alloc HB _) hb) | (replace HB := Bel.step (Bel.alloc (Bel.alloc HB _) _) hb) | (replace HB := Bel.step (Bel.alloc (Bel.alloc (Bel.alloc HB _) _) _) hb) | (replace HB := Bel.step (Bel.alloc (Bel.alloc (Bel.alloc (Bel.alloc HB _) _) _) _) hb) | (replace HB := Bel.step (Bel.alloc (Bel.alloc (Bel.alloc (Bel.alloc (Bel.alloc HB _) _) _) _) _) hb) | (replace HB := Bel.step (Bel.alloc (Bel.alloc (Bel.alloc (Bel.alloc (Bel.alloc (Bel.alloc HB _) _) _) _) _) _) hb) | (replace HB := Bel.step (Bel.drew HB) hb) | (replace HB := Bel.step (Bel.drewN HB _) hb) | (replace HB := Bel.step (Bel.alloc (Bel.drewN HB _) _) hb));replace HC := yc HB;clear hb)
    | (go_at_call 149;refine (yi _ _ _).mono ?_;rintro e w' ⟨rfl,rfl⟩)
    | (go_at_call 148;refine (yn _ 1 _ [0] _ (by omega) (by exact Rd.new _ oy (by simp) rfl rfl) rfl).mono ?_;rintro e w' ⟨rfl,rfl⟩))
   have hz0 : Hid (fe ((t.guards.take 0).flatMap (gErrs nr)) = 0) := by show fe _ = 0;simp [fe]
   have HB5 : Below w4.heap.size w4 (w4.alloc (.cells #[.int .i64 0] 22)) := Bel.alloc (Below.refl _ _) _
   go_loopw [77] (fun i wr => ∃ m : Nat,m ≤ ng ∧ i = .int .i64 m ∧ Hid (fe ((t.guards.take m).flatMap (gErrs nr)) = 0) ∧ Below (ckW w ra nr rc ga ng gc sa ns sc).heap.size (ckW w ra nr rc ga ng gc sa ns sc) wr ∧ Below w4.heap.size w4 wr) (fun i _ => ng - (intOf i).toNat)
   case atStart => exact ⟨0,by omega,rfl,hz0,Bel.alloc HB _,HB5⟩
   case round =>
    obtain ⟨m,hm,rfl,hfe,HBm,HB4⟩ := hrel
    clear HC
    have HC := yc HBm
    by_cases hmlt : m < ng
    ·obtain ⟨b,o,gk,ak,an,bk,bn,rfl,hbx,hx,c0,c1,c2,c3,c4⟩ := get_guard (qg4.below HB4) hmlt
     by_cases hz : fe (gErrs nr ⟨gk,⟨ak,an⟩,⟨bk,bn⟩⟩) = 0
     ·have hnext := Lib.hid (u3 hfe.out hx.out hz)
      have hZ := Lib.hid hz
      clear hz
      go_wp2_with (go_at_call 128;refine (qe _ _ _ _).mono ?_;rintro e w' ⟨rfl,rfl⟩)
      go_region_held3 (fun W => Below (wr.alloc (.cells #[.int .i64 gk,.int .i64 ak,.int .i64 an,.int .i64 bk,.int .i64 bn] 83)).heap.size (wr.alloc (.cells #[.int .i64 gk,.int .i64 ak,.int .i64 an,.int .i64 bk,.int .i64 bn] 83)) W ∧ W.cell? ⟨wr.heap.size,1,none⟩ = some (.int .i64 ak) ∧ W.cell? ⟨wr.heap.size,2,none⟩ = some (.int .i64 an) ∧ W.cell? ⟨wr.heap.size,3,none⟩ = some (.int .i64 bk) ∧ W.cell? ⟨wr.heap.size,4,none⟩ = some (.int .i64 bn))
       (first | (refine ⟨HR,?_⟩;(repeat' apply And.intro) <;> (refine (HR.cell (by simp)).trans ?_;simp [World.cell?_alloc_new];done)) | (refine ⟨Bel.alloc HR _,?_⟩;(repeat' apply And.intro) <;> (refine ((Bel.alloc HR _).cell (by simp)).trans ?_;simp [World.cell?_alloc_new];done)) | (refine ⟨(Below.refl _ _).drew,?_⟩;(repeat' apply And.intro) <;> (simp [go_sem];done)))
       (first
        | (go_at_call 152;refine (yt _ _ _ _).mono ?_;rintro e w' ⟨rfl,hb⟩;have HR := Rg.step (by assumption) hb)
        | (go_at_call 148;refine (yn _ 3 _ (gErrs nr ⟨gk,⟨ak,an⟩,⟨bk,bn⟩⟩) _ (by omega) (by exact Rd.new _ oy (by simp) rfl rfl) hZ.out).mono ?_;rintro e w' ⟨rfl,rfl⟩))
      go_wp2
      go_roundw
      case rel => exact ⟨m + 1,by omega,by go_num,hnext,Bel.alloc (Bel.step (Bel.alloc HBm _) HR) _,Bel.alloc (Bel.step (Bel.alloc HB4 _) HR) _⟩
      case measure => simp [intOf];omega
     ·have hthrow : Hid (fe (gErrs nr ⟨gk,⟨ak,an⟩,⟨bk,bn⟩⟩) = res) := by rw [hres.out];exact (ux hfe.out hx.out hz _).symm
      have hZ := Lib.hid hz
      clear hz
      go_wp2_with (go_at_call 128;refine (qe _ _ _ _).mono ?_;rintro e w' ⟨rfl,rfl⟩)
      refine jE (S := fun W => Below (wr.alloc (.cells #[.int .i64 gk,.int .i64 ak,.int .i64 an,.int .i64 bk,.int .i64 bn] 83)).heap.size (wr.alloc (.cells #[.int .i64 gk,.int .i64 ak,.int .i64 an,.int .i64 bk,.int .i64 bn] 83)) W ∧ W.cell? ⟨wr.heap.size,1,none⟩ = some (.int .i64 ak) ∧ W.cell? ⟨wr.heap.size,2,none⟩ = some (.int .i64 an) ∧ W.cell? ⟨wr.heap.size,3,none⟩ = some (.int .i64 bk) ∧ W.cell? ⟨wr.heap.size,4,none⟩ = some (.int .i64 bn))
       (s := 2) (u := .pointer (some ⟨w.heap.size + 1,0,none⟩)) (D := [{ target := Target.fn (Fn.func 146) #[.pointer (some ⟨w.heap.size + 1,0,none⟩)],args := #[] }])
       (R := fun c W => c = [{ v := .iface 213 (.agg #[.int .i64 res]),recovered := false }] ∧ Below (ckW w ra nr rc (some ⟨b,o,none⟩) ng gc sa ns sc).heap.size (ckW w ra nr rc (some ⟨b,o,none⟩) ng gc sa ns sc) W)
       (by kernel_rfl) (by rfl) rfl ?_ ?_ (fun hS => ?_)
      ·rintro c ⟨T,dfs⟩ W ha ⟨hc,hB⟩ hdf
       subst hc
       simp only at hdf
       subst hdf
       exact qX hB rfl ha
      ·exact ⟨(Below.refl _ _).drew,by simp [go_sem],by simp [go_sem],by simp [go_sem],by simp [go_sem]⟩
      ·refine wpAnyH_take (i := 0) (v := .int .i64 (holdsE gk)) rfl (by kernel_rfl) (by kernel_rfl) (by kernel_rfl) (fun _ _ _ h => h) (Or.inl ⟨by rfl,?_⟩) hS ?_
       ·intro W hW;obtain ⟨_,d1,d2,d3,d4⟩ := hW;clear HC hS;go_simp
       refine wpAnyH_take (i := 1) (v := .pointer (some ⟨wr.heap.size,1,none⟩)) rfl (by kernel_rfl) (by kernel_rfl) (by kernel_rfl) (fun _ _ _ h => h) (Or.inl ⟨by rfl,?_⟩) hS ?_
       ·intro W hW;obtain ⟨_,d1,d2,d3,d4⟩ := hW;clear HC hS;go_simp
       refine wpAnyH_take (i := 2) (v := .agg #[.int .i64 ak,.int .i64 an]) rfl (by kernel_rfl) (by kernel_rfl) (by kernel_rfl) (fun _ _ _ h => h) (Or.inl ⟨by rfl,?_⟩) hS ?_
       ·intro W hW;obtain ⟨_,d1,d2,d3,d4⟩ := hW;clear HC hS;go_simp
       refine wpAnyH_take (i := 3) (v := .int .i64 nr) rfl (by kernel_rfl) (by kernel_rfl) (by kernel_rfl) (fun _ _ _ h => h) (Or.inl ⟨by rfl,?_⟩) hS ?_
       ·intro W hW;obtain ⟨_,d1,d2,d3,d4⟩ := hW;clear HC hS;go_simp
       refine wpAnyH_take (i := 5) (v := .pointer (some ⟨wr.heap.size,3,none⟩)) rfl (by kernel_rfl) (by kernel_rfl) (by kernel_rfl) (fun _ _ _ h => h) (Or.inl ⟨by rfl,?_⟩) hS ?_
       ·intro W hW;obtain ⟨_,d1,d2,d3,d4⟩ := hW;clear HC hS;go_simp
       refine wpAnyH_take (i := 6) (v := .agg #[.int .i64 bk,.int .i64 bn]) rfl (by kernel_rfl) (by kernel_rfl) (by kernel_rfl) (fun _ _ _ h => h) (Or.inl ⟨by rfl,?_⟩) hS ?_
       ·intro W hW;obtain ⟨_,d1,d2,d3,d4⟩ := hW;clear HC hS;go_simp
       refine wpAnyH_take (i := 7) (v := .int .i64 nr) rfl (by kernel_rfl) (by kernel_rfl) (by kernel_rfl) (fun _ _ _ h => h) (Or.inl ⟨by rfl,?_⟩) hS ?_
       ·intro W hW;obtain ⟨_,d1,d2,d3,d4⟩ := hW;clear HC hS;go_simp
       refine wpAnyH_ready (rs := [4]) (by kernel_rfl) (by simp) (AllReadyH.cons rfl (fun K hK => ?_) AllReadyH.nil)
       go_simp
       go_wp2_with (go_at_call 152;refine (yt _ _ _ _).mono ?_;rintro e w5 ⟨rfl,hb⟩)
       have hS5 := gS (Bel.step hS.1 hb)
       refine hK.out _ _ hS5 (fun hS => ?_)
       clear hK K hb
       refine wpAnyH_ready (rs := [8]) (by kernel_rfl) (by simp) (AllReadyH.cons rfl (fun K hK => ?_) AllReadyH.nil)
       go_simp
       go_wp2_with (go_at_call 152;refine (yt _ _ _ _).mono ?_;rintro e w6 ⟨rfl,hb⟩)
       have hS6 := gS (Bel.step hS5.1 hb)
       refine hK.out _ _ hS6 (fun hS => ?_)
       clear hK K hb
       refine wpAnyH_ready (rs := [9]) (by kernel_rfl) (by simp) (AllReadyH.cons rfl (fun K hK => ?_) AllReadyH.nil)
       go_simp
       have hS7 := gS (Bel.alloc hS6.1 (.cells #[.int .i64 (holdsE gk),.int .i64 (checkOp ak an nr),.int .i64 (checkOp bk bn nr)] 22))
       refine hK.out _ _ hS7 (fun hS => ?_)
       clear hK K
       refine wpAnyH_ready (rs := [10]) (by kernel_rfl) (by simp) (AllReadyH.cons rfl (fun K hK => ?_) AllReadyH.nil)
       go_simp
       go_wp2_with (go_at_call 148;refine (uf _ 3 _ (gErrs nr ⟨gk,⟨ak,an⟩,⟨bk,bn⟩⟩) _ (by omega) (by exact Rd.new _ oy (by simp) rfl rfl) hZ.out).mono ?_;rintro e w' ⟨rfl,rfl⟩)
       exact ⟨⟨by rw [hthrow.out],Bel.step (Bel.alloc HBm _) hS7.1⟩,rfl⟩
    ·have hG : Hid (fe (t.guards.flatMap (gErrs nr)) = 0) := by
      have := hfe.out
      rwa [List.take_of_length_le (by have := qg4.1;omega)] at this
     have qs5 := qs4.below HB4
     obtain ⟨wo,hwo⟩ : ∃ wo : World,wo = wr := ⟨_,rfl⟩
     subst hwo
     have hz0' : Hid (fe ((t.sets.take 0).flatMap (sErrs nr)) = 0) := by show fe _ = 0;simp [fe]
     go_wp2
     go_loopw [102] (fun i wv => ∃ j : Nat,j ≤ ns ∧ i = .int .i64 j ∧ Hid (fe ((t.sets.take j).flatMap (sErrs nr)) = 0) ∧ Below (ckW w ra nr rc ga ng gc sa ns sc).heap.size (ckW w ra nr rc ga ng gc sa ns sc) wv ∧ Below wo.heap.size wo wv) (fun i _ => ns - (intOf i).toNat)
     case atStart => exact ⟨0,by omega,rfl,hz0',HBm,Below.refl _ _⟩
     case round =>
      obtain ⟨j,hj,rfl,hfs,HBs,HB6⟩ := hrel
      clear HC
      have HC := yc HBs
      by_cases hjlt : j < ns
      ·obtain ⟨b,o,key,op,ak,an,bk,bn,rfl,hbx,hx,c0,c1,c2,c3,c4,c5⟩ := get_set (qs5.below HB6) hjlt
       by_cases hz : fe (sErrs nr ⟨key,op,⟨ak,an⟩,⟨bk,bn⟩⟩) = 0
       ·have hnext := Lib.hid (u3 hfs.out hx.out hz)
        have hZ := Lib.hid hz
        clear hz
        go_wp2_with (go_at_call 129;refine (jS _ _ _ _).mono ?_;rintro e w7 ⟨rfl,h7⟩;have HD := bcell h7)
        go_region_held3 (fun W => Below (wr.alloc (.cells #[.int .i64 key,.int .i64 op,.int .i64 ak,.int .i64 an,.int .i64 bk,.int .i64 bn] 90)).heap.size (wr.alloc (.cells #[.int .i64 key,.int .i64 op,.int .i64 ak,.int .i64 an,.int .i64 bk,.int .i64 bn] 90)) W ∧ W.cell? ⟨wr.heap.size,2,none⟩ = some (.int .i64 ak) ∧ W.cell? ⟨wr.heap.size,3,none⟩ = some (.int .i64 an) ∧ W.cell? ⟨wr.heap.size,4,none⟩ = some (.int .i64 bk) ∧ W.cell? ⟨wr.heap.size,5,none⟩ = some (.int .i64 bn))
         (first | exact sS HR | exact sS (Bel.alloc HR _) | exact sS h7.drew)
         (first
          | (go_at_call 152;refine (yt _ _ _ _).mono ?_;rintro e w' ⟨rfl,hb⟩;have HR := Rg.step (by assumption) hb)
          | (go_at_call 148;refine (yn _ 3 _ (sErrs nr ⟨key,op,⟨ak,an⟩,⟨bk,bn⟩⟩) _ (by omega) (by exact Rd.new _ oy (by simp) rfl rfl) hZ.out).mono ?_;rintro e w' ⟨rfl,rfl⟩))
        go_wp2
        go_roundw
        case rel => exact ⟨j + 1,by omega,by go_num,hnext,Bel.alloc (Bel.step (Bel.alloc HBs _) HR) _,Bel.alloc (Bel.step (Bel.alloc HB6 _) HR) _⟩
        case measure => simp [intOf];omega
       ·have hthrow : Hid (fe (sErrs nr ⟨key,op,⟨ak,an⟩,⟨bk,bn⟩⟩) = res) := by rw [hres.out,ui,if_pos hG.out];have := (ux hfs.out hx.out hz []).symm;rwa [List.append_nil] at this
        have hZ := Lib.hid hz
        clear hz
        go_wp2_with (go_at_call 129;refine (jS _ _ _ _).mono ?_;rintro e w7 ⟨rfl,h7⟩;have HD := bcell h7)
        refine jE (S := (fun W => Below (wr.alloc (.cells #[.int .i64 key,.int .i64 op,.int .i64 ak,.int .i64 an,.int .i64 bk,.int .i64 bn] 90)).heap.size (wr.alloc (.cells #[.int .i64 key,.int .i64 op,.int .i64 ak,.int .i64 an,.int .i64 bk,.int .i64 bn] 90)) W ∧ W.cell? ⟨wr.heap.size,2,none⟩ = some (.int .i64 ak) ∧ W.cell? ⟨wr.heap.size,3,none⟩ = some (.int .i64 an) ∧ W.cell? ⟨wr.heap.size,4,none⟩ = some (.int .i64 bk) ∧ W.cell? ⟨wr.heap.size,5,none⟩ = some (.int .i64 bn)))
         (s := 2) (u := .pointer (some ⟨w.heap.size + 1,0,none⟩)) (D := [{ target := Target.fn (Fn.func 146) #[.pointer (some ⟨w.heap.size + 1,0,none⟩)],args := #[] }])
         (R := fun c W => c = [{ v := .iface 213 (.agg #[.int .i64 res]),recovered := false }] ∧ Below (ckW w ra nr rc ga ng gc (some ⟨b,o,none⟩) ns sc).heap.size (ckW w ra nr rc ga ng gc (some ⟨b,o,none⟩) ns sc) W)
         (by kernel_rfl) (by rfl) rfl ?_ ?_ (fun hS => ?_)
        ·rintro c ⟨T,dfs⟩ W ha ⟨hc,hB⟩ hdf
         subst hc
         simp only at hdf
         subst hdf
         exact qX hB rfl ha
        ·exact sS h7.drew
        ·clear HD
         refine wpAnyH_take (i := 0) (v := .int .i64 (reckonE op)) rfl (by kernel_rfl) (by kernel_rfl) (by kernel_rfl) (fun _ _ _ h => h) (Or.inl ⟨by rfl,?_⟩) hS ?_
         ·intro W hW;obtain ⟨_,d1,d2,d3,d4⟩ := hW;clear HC hS;go_simp
         refine wpAnyH_take (i := 1) (v := .pointer (some ⟨wr.heap.size,2,none⟩)) rfl (by kernel_rfl) (by kernel_rfl) (by kernel_rfl) (fun _ _ _ h => h) (Or.inl ⟨by rfl,?_⟩) hS ?_
         ·intro W hW;obtain ⟨_,d1,d2,d3,d4⟩ := hW;clear HC hS;go_simp
         refine wpAnyH_take (i := 2) (v := .agg #[.int .i64 ak,.int .i64 an]) rfl (by kernel_rfl) (by kernel_rfl) (by kernel_rfl) (fun _ _ _ h => h) (Or.inl ⟨by rfl,?_⟩) hS ?_
         ·intro W hW;obtain ⟨_,d1,d2,d3,d4⟩ := hW;clear HC hS;go_simp
         refine wpAnyH_take (i := 3) (v := .int .i64 nr) rfl (by kernel_rfl) (by kernel_rfl) (by kernel_rfl) (fun _ _ _ h => h) (Or.inl ⟨by rfl,?_⟩) hS ?_
         ·intro W hW;obtain ⟨_,d1,d2,d3,d4⟩ := hW;clear HC hS;go_simp
         refine wpAnyH_take (i := 5) (v := .pointer (some ⟨wr.heap.size,4,none⟩)) rfl (by kernel_rfl) (by kernel_rfl) (by kernel_rfl) (fun _ _ _ h => h) (Or.inl ⟨by rfl,?_⟩) hS ?_
         ·intro W hW;obtain ⟨_,d1,d2,d3,d4⟩ := hW;clear HC hS;go_simp
         refine wpAnyH_take (i := 6) (v := .agg #[.int .i64 bk,.int .i64 bn]) rfl (by kernel_rfl) (by kernel_rfl) (by kernel_rfl) (fun _ _ _ h => h) (Or.inl ⟨by rfl,?_⟩) hS ?_
         ·intro W hW;obtain ⟨_,d1,d2,d3,d4⟩ := hW;clear HC hS;go_simp
         refine wpAnyH_take (i := 7) (v := .int .i64 nr) rfl (by kernel_rfl) (by kernel_rfl) (by kernel_rfl) (fun _ _ _ h => h) (Or.inl ⟨by rfl,?_⟩) hS ?_
         ·intro W hW;obtain ⟨_,d1,d2,d3,d4⟩ := hW;clear HC hS;go_simp
         refine wpAnyH_ready (rs := [4]) (by kernel_rfl) (by simp) (AllReadyH.cons rfl (fun K hK => ?_) AllReadyH.nil)
         go_simp
         go_wp2_with (go_at_call 152;refine (yt _ _ _ _).mono ?_;rintro e w5 ⟨rfl,hb⟩)
         have hS5 := sS (Bel.step hS.1 hb)
         refine hK.out _ _ hS5 (fun hS => ?_)
         clear hK K hb
         refine wpAnyH_ready (rs := [8]) (by kernel_rfl) (by simp) (AllReadyH.cons rfl (fun K hK => ?_) AllReadyH.nil)
         go_simp
         go_wp2_with (go_at_call 152;refine (yt _ _ _ _).mono ?_;rintro e w6 ⟨rfl,hb⟩)
         have hS6 := sS (Bel.step hS5.1 hb)
         refine hK.out _ _ hS6 (fun hS => ?_)
         clear hK K hb
         refine wpAnyH_ready (rs := [9]) (by kernel_rfl) (by simp) (AllReadyH.cons rfl (fun K hK => ?_) AllReadyH.nil)
         go_simp
         have hS7 := sS (Bel.alloc hS6.1 (.cells #[.int .i64 (reckonE op),.int .i64 (checkOp ak an nr),.int .i64 (checkOp bk bn nr)] 22))
         refine hK.out _ _ hS7 (fun hS => ?_)
         clear hK K
         refine wpAnyH_ready (rs := [10]) (by kernel_rfl) (by simp) (AllReadyH.cons rfl (fun K hK => ?_) AllReadyH.nil)
         go_simp
         go_wp2_with (go_at_call 148;refine (uf _ 3 _ (sErrs nr ⟨key,op,⟨ak,an⟩,⟨bk,bn⟩⟩) _ (by omega) (by exact Rd.new _ oy (by simp) rfl rfl) hZ.out).mono ?_;rintro e w' ⟨rfl,rfl⟩)
         exact ⟨⟨by rw [hthrow.out],Bel.step (Bel.alloc HBs _) hS7.1⟩,rfl⟩
      ·have hend : res = 0 := by
        rw [hres.out,ui,if_pos hG.out]
        have := hfs.out
        rwa [List.take_of_length_le (by have := qs5.1;omega)] at this
       have hE := Lib.hid hend
       clear hend
       go_wp2
       exact ck_fine HBs hE.out rfl
theorem txn_Check (ra ga sa : Option Addr) (nr rc ng gc ns sc : Nat) (t : Txn) (w : World) (h : TxnAt w ra nr ga ng sa ns t) :
 Calls Tryz.prog 112 #[.agg #[.slice ra nr rc,.slice ga ng gc,.slice sa ns sc]] w fun e w' => e = .returned (.int .i64 (checkTxn t)) ∧ Below w.heap.size w w' := by
 have l1 := h.1.1
 have l2 := h.2.1.1
 have l3 := h.2.2.1.1
 by_cases hs : sizesOk t
 ·obtain ⟨s1,s2,s3,s4⟩ := hs
  have hs : sizesOk t := ⟨s1,s2,s3,s4⟩
  cases hk : (t.reads ++ keysOf t).all isKeyB with
  | false => rw [vk hs hk];exact txn_Check_keys ra ga sa nr rc ng gc ns sc t w h (by omega) (by omega) (by omega) (by omega) hk
  | true =>
   cases hr : (rising t.reads && rising (keysOf t)) with
   | false => rw [uO hs hk hr];exact txn_Check_rising ra ga sa nr rc ng gc ns sc t w h (by omega) (by omega) (by omega) (by omega) hk hr
   | true => exact txn_Check_parts ra ga sa nr rc ng gc ns sc t w h (by omega) (by omega) (by omega) (by omega) hk hr _ (by show checkTxn t = _;rw [jN hs hk hr,partErrs,l1])
 ·rw [jF hs]
  exact txn_Check_sizes ra ga sa nr rc ng gc ns sc t w h (fun hh => hs ⟨by omega,by omega,by omega,by omega⟩)
end Go.Proofs.YtjgmbgfcffnanaaGreatDoor
