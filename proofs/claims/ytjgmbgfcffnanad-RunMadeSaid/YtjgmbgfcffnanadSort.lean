/- Insertion sort of few locks, as slices.SortFunc comes to it. -/
import Derived.Test.YtjgmbgfcffnanadLit
import Derived.Test.YtjgmbgfcffnanadSl
import Derived.Test.YtjgmbgfcffnanadLB
import Derived.Lib.Strings
import Derived.Lib.BitFns
import Derived.Lib.Small
namespace Go.Proofs.Ytjgmbgfcffnanad
open Go.RowKit

structure LockT where
  key : Int
  write : Bool
deriving DecidableEq
def cL (l : LockT) : List IV := [IV.int l.key, IV.bool l.write]
abbrev locksV (l : List LockT) : IV := IV.view 2 cL l
def cmpN (a b : Int) : Int := if a < b then -1 else if b < a then 1 else 0
/- an element is put into its place from the right -/
def insR (x : LockT) : List LockT → List LockT
  | [] => [x]
  | y :: l => if x.key < y.key ∧ (insR x l).head? = some x then x :: y :: l else y :: insR x l
/- the same, told from the right -/
def insB (x : LockT) (l : List LockT) : List LockT := ((l.reverse.dropWhile (fun y => decide (x.key < y.key))).reverse ++ [x]) ++ (l.reverse.takeWhile (fun y => decide (x.key < y.key))).reverse
def isort (l : List LockT) : List LockT := l.foldl (fun s x => insB x s) []
theorem insB_nil (x : LockT) : insB x [] = [x] := rfl
theorem insB_lt {x y : LockT} {p : List LockT} (h : x.key < y.key) : insB x (p ++ [y]) = insB x p ++ [y] := by
  unfold insB
  simp [List.reverse_append, List.dropWhile_cons, List.takeWhile_cons, h]
theorem insB_ge {x y : LockT} {p : List LockT} (h : ¬ x.key < y.key) : insB x (p ++ [y]) = p ++ [y] ++ [x] := by
  unfold insB
  simp [List.reverse_append, List.dropWhile_cons, List.takeWhile_cons, h]
theorem insB_perm (x : LockT) (l : List LockT) : (insB x l).Perm (x :: l) := by
  unfold insB
  have h : l = (l.reverse.dropWhile (fun y => decide (x.key < y.key))).reverse ++ (l.reverse.takeWhile (fun y => decide (x.key < y.key))).reverse := by
    rw [← List.reverse_append, List.takeWhile_append_dropWhile, List.reverse_reverse]
  conv => rhs; rw [h]
  rw [List.append_assoc]
  exact List.perm_middle
theorem isort_perm (l : List LockT) : (isort l).Perm l := by
  have : ∀ (l s : List LockT), (l.foldl (fun s x => insB x s) s).Perm (s ++ l) := by
    intro l
    induction l with
    | nil => intro s; simp
    | cons x l ih =>
      intro s
      refine (ih (insB x s)).trans ?_
      refine ((insB_perm x s).append_right l).trans ?_
      exact List.perm_middle.symm
  have h := this l []
  rw [List.nil_append] at h
  exact h
def sortedK (l : List LockT) : Prop := l.Pairwise (fun a b => a.key ≤ b.key)
theorem insB_sorted {x : LockT} {l : List LockT} (h : sortedK l) : sortedK (insB x l) := by
  have key : ∀ n (l : List LockT), l.length = n → sortedK l → sortedK (insB x l) := by
    intro n
    induction n with
    | zero =>
      intro l hl _
      have : l = [] := List.eq_nil_of_length_eq_zero hl
      subst this
      exact List.pairwise_singleton _ _
    | succ n ih =>
      intro l hl hs
      rcases List.eq_nil_or_concat l with rfl | ⟨p, y, rfl⟩
      · simp at hl
      · rw [List.concat_eq_append] at hl hs ⊢
        unfold sortedK at hs
        rw [List.pairwise_append] at hs
        obtain ⟨h1, _, h3⟩ := hs
        by_cases hxy : x.key < y.key
        · rw [insB_lt hxy]
          unfold sortedK
          rw [List.pairwise_append]
          refine ⟨ih p (by simpa using hl) h1, List.pairwise_singleton _ _, fun a ha b hb => ?_⟩
          have hb : b = y := by simpa using hb
          subst hb
          have := (insB_perm x p).mem_iff.1 ha
          rcases List.mem_cons.1 this with rfl | h5
          · omega
          · exact h3 a h5 b (by simp)
        · rw [insB_ge hxy]
          unfold sortedK
          rw [List.pairwise_append]
          refine ⟨?_, List.pairwise_singleton _ _, fun a ha b hb => ?_⟩
          · rw [List.pairwise_append]; exact ⟨h1, List.pairwise_singleton _ _, h3⟩
          · have hb : b = x := by simpa using hb
            subst hb
            rcases List.mem_append.1 ha with h5 | h5
            · have := h3 a h5 y (by simp); omega
            · have : a = y := by simpa using h5
              subst this; omega
  exact key _ l rfl h
theorem isort_sorted (l : List LockT) : sortedK (isort l) := by
  have : ∀ (l s : List LockT), sortedK s → sortedK (l.foldl (fun s x => insB x s) s) := by
    intro l
    induction l with
    | nil => intro s h; exact h
    | cons x l ih => intro s h; exact ih _ (insB_sorted h)
  exact this l [] List.Pairwise.nil
theorem isort_snoc (l : List LockT) (x : LockT) : isort (l ++ [x]) = insB x (isort l) := by unfold isort; rw [List.foldl_append]; rfl
theorem isort_len (l : List LockT) : (isort l).length = l.length := (isort_perm l).length_eq

set_option maxRecDepth 100000 in
theorem isNaN_fn (a : Int) : Fn (Cfg.mk Try.prog (ttAt ttl) ttl_ok.ok mixd) 75 [IV.int a] (IV.bool false) := by
  refine Fn.of_wp _ Try.func75 rfl (by kernel_rfl) Try.ntmps75 rfl ?_
  intro F hD hG
  ((repeat apply WP.seq); apply WP.lreg; refine nA rfl rfl ?_; refine ALK.nil ?_; try show WP _ _ _ _ _ _)
  ((repeat apply WP.seq); apply WP.lreg; refine nM rfl rfl ?_; refine nM rfl rfl ?_; refine ALK.n OpN.cm rfl ?_; refine nA rfl rfl ?_; refine ALK.nil ?_; try show WP _ _ _ _ _ _)
  have hr : false = (a != a) := by simp
  ((repeat apply WP.seq); refine WP.ret ?_; first | exact RetOk.one Try.results75 ResV.a | exact RetOk.tup Try.results75 rfl ResVs.a)
set_option maxRecDepth 100000 in
theorem Compare_fn (a b : Int) : Fn (Cfg.mk Try.prog (ttAt ttl) ttl_ok.ok mixd) 66 [IV.int a, IV.int b] (IV.int (cmpN a b)) := by
  refine Fn.of_wp _ Try.func66 rfl (by kernel_rfl) Try.ntmps66 rfl ?_
  intro F hD hG
  ((repeat apply WP.seq); apply WP.lreg; refine nA rfl rfl ?_; refine ALK.nil ?_; try show WP _ _ _ _ _ _)
  ((repeat apply WP.seq); apply WP.lreg; refine nM rfl rfl ?_; refine ALK.n (opn_call (isNaN_fn a) (Evs.cons Ev.a Evs.nil)) rfl ?_; refine nA rfl rfl ?_; refine ALK.nil ?_; try show WP _ _ _ _ _ _)
  ((repeat apply WP.seq); apply WP.lreg; refine nM rfl rfl ?_; refine ALK.n (opn_call (isNaN_fn b) (Evs.cons Ev.a Evs.nil)) rfl ?_; refine nA rfl rfl ?_; refine ALK.nil ?_; try show WP _ _ _ _ _ _)
  ((repeat apply WP.seq); apply WP.lreg; refine nM rfl rfl ?_; refine ALK.nil ?_; try show WP _ _ _ _ _ _)
  ((repeat apply WP.seq); refine WP.cond rfl (fun h => ?_) (fun h => ?_))
  · cases h
  (refine WP.skip ?_; show WP _ _ _ _ _ _)
  ((repeat apply WP.seq); apply WP.lreg; refine nM rfl rfl ?_; refine ALK.nil ?_; try show WP _ _ _ _ _ _)
  ((repeat apply WP.seq); refine WP.cond rfl (fun h => ?_) (fun h => ?_))
  · cases h
  (refine WP.skip ?_; show WP _ _ _ _ _ _)
  ((repeat apply WP.seq); apply WP.lreg; refine nM rfl rfl ?_; refine nM rfl rfl ?_; refine ALK.n OpN.cm rfl ?_; refine ALK.nil ?_; try show WP _ _ _ _ _ _)
  ((repeat apply WP.seq); refine WP.cond rfl (fun h => ?_) (fun h => ?_))
  · ((repeat apply WP.seq); apply WP.lreg; refine nA rfl rfl ?_; refine ALK.nil ?_; try show WP _ _ _ _ _ _)
    have hr : cmpN a b = -1 := by unfold cmpN; rw [if_pos (by simpa using h)]
    rw [hr]
    ((repeat apply WP.seq); refine WP.ret ?_; first | exact RetOk.one Try.results66 ResV.a | exact RetOk.tup Try.results66 rfl ResVs.a)
  (refine WP.skip ?_; show WP _ _ _ _ _ _)
  have h1 : ¬ a < b := by simpa using h
  ((repeat apply WP.seq); apply WP.lreg; refine nM rfl rfl ?_; refine nM rfl rfl ?_; refine ALK.n OpN.cm rfl ?_; refine ALK.nil ?_; try show WP _ _ _ _ _ _)
  ((repeat apply WP.seq); refine WP.cond rfl (fun h => ?_) (fun h => ?_))
  · ((repeat apply WP.seq); apply WP.lreg; refine nA rfl rfl ?_; refine ALK.nil ?_; try show WP _ _ _ _ _ _)
    have hr : cmpN a b = 1 := by unfold cmpN; rw [if_neg h1, if_pos (by simpa using h)]
    rw [hr]
    ((repeat apply WP.seq); refine WP.ret ?_; first | exact RetOk.one Try.results66 ResV.a | exact RetOk.tup Try.results66 rfl ResVs.a)
  (refine WP.skip ?_; show WP _ _ _ _ _ _)
  ((repeat apply WP.seq); apply WP.lreg; refine nA rfl rfl ?_; refine ALK.nil ?_; try show WP _ _ _ _ _ _)
  have hr : cmpN a b = 0 := by unfold cmpN; rw [if_neg h1, if_neg (by simpa using h)]
  rw [hr]
  ((repeat apply WP.seq); refine WP.ret ?_; first | exact RetOk.one Try.results66 ResV.a | exact RetOk.tup Try.results66 rfl ResVs.a)
set_option maxRecDepth 100000 in
theorem Locks1_fn (x y : LockT) : Fn (Cfg.mk Try.prog (ttAt ttl) ttl_ok.ok mixd) 65 [IV.agg (cL x), IV.agg (cL y)] (IV.int (cmpN x.key y.key)) := by
  refine Fn.of_wp _ Try.func65 rfl (by kernel_rfl) Try.ntmps65 rfl ?_
  intro F hD hG
  ((repeat apply WP.seq); apply WP.lreg; refine ALK.n (opn_box (eB rfl) Cs.a rfl) rfl ?_; refine ALK.n (opn_box (eB rfl) Cs.a rfl) rfl ?_; refine nA rfl rfl ?_; refine ALK.nil ?_; try show WP _ _ _ _ _ _)
  ((repeat apply WP.seq); apply WP.lreg; (first | refine ALK.n (opn_field (o := 0) rfl (eB rfl)) rfl ?_ | refine ALK.n (opn_fieldOff (o := 0) rfl (eB rfl)) rfl ?_); (first | refine ALK.n (opn_load rfl (eB rfl) rfl) rfl ?_ | refine ALK.r OpR.ld rfl ?_); (first | refine ALK.n (opn_field (o := 0) rfl (eB rfl)) rfl ?_ | refine ALK.n (opn_fieldOff (o := 0) rfl (eB rfl)) rfl ?_); (first | refine ALK.n (opn_load rfl (eB rfl) rfl) rfl ?_ | refine ALK.r OpR.ld rfl ?_); refine ALK.n (opn_call (Compare_fn x.key y.key) (Evs.cons Ev.a (Evs.cons Ev.a Evs.nil))) rfl ?_; refine nA rfl rfl ?_; refine ALK.nil ?_; try show WP _ _ _ _ _ _)
  ((repeat apply WP.seq); refine WP.ret ?_; first | exact RetOk.one Try.results65 ResV.a | exact RetOk.tup Try.results65 rfl ResVs.a)

set_option maxHeartbeats 4000000 in
set_option maxRecDepth 100000 in
theorem bits_Len64 (x : Int) (w : World) (h0 : 0 ≤ x) (h1 : x ≤ 12) :
    Calls Try.prog 85 #[.int .u64 x] w fun e w' => (∃ m, e = .returned (.int .i64 m)) ∧ w' = w := by
  have hs : x < (Lib.len8tab.size : Int) := by
    have : Lib.len8tab.size = 256 := by decide +kernel
    omega
  go_enter Try.func85, Try.ntmps85
  go_wp2
  all_goals first
    | (exfalso; omega)
    | (go_ret; exact ⟨⟨_, rfl⟩, rfl⟩)
set_option maxHeartbeats 4000000 in
set_option maxRecDepth 100000 in
theorem bits_Len (x : Int) (w : World) (h0 : 0 ≤ x) (h1 : x ≤ 12) :
    Calls Try.prog 74 #[.int .u64 x] w fun e w' => (∃ m, e = .returned (.int .i64 m)) ∧ w' = w := by
  go_enter Try.func74, Try.ntmps74
  go_wp2_with (go_at_call 85; refine (bits_Len64 x _ h0 h1).mono ?_; rintro e w' ⟨⟨m, rfl⟩, rfl⟩)
  go_ret
  exact ⟨⟨_, rfl⟩, rfl⟩
theorem bits_Len_fn (x : Int) (h0 : 0 ≤ x) (h1 : x ≤ 12) : Fn (Cfg.mk Try.prog (ttAt ttl) ttl_ok.ok mixd) 74 [IV.val (.int .u64 x)] IV.any := by
  refine ⟨⟨_, Try.func74, rfl, by kernel_rfl⟩, fun μ w vs hvs ha => ?_⟩
  obtain ⟨v, vs', rfl, rfl, rfl⟩ := hvs
  refine (bits_Len x w h0 h1).mono ?_
  rintro e w' ⟨⟨m, rfl⟩, rfl⟩
  exact ⟨_, μ, rfl, trivial, Stp.refl ha⟩

theorem at_mid {α : Type} {p q : List α} {x : α} : (p ++ x :: q)[p.length]? = some x := by
  rw [List.getElem?_append_right (Nat.le_refl _), Nat.sub_self]; rfl
theorem swap_mid {α : Type} {p q : List α} {x y : α} : (((p ++ [y]) ++ x :: q).set (p.length + 1) y).set p.length x = p ++ x :: y :: q := by
  have h1 : (p ++ [y]) ++ x :: q = p ++ y :: x :: q := by simp
  rw [h1, List.set_append_right _ _ (by omega), show p.length + 1 - p.length = 1 by omega]
  rw [List.set_append_right _ _ (by omega), Nat.sub_self]
  rfl

set_option maxRecDepth 100000 in
theorem insertion_fn (xs : List LockT) (hn : xs.length ≤ 12) (f : FuncId) (hf : ∀ x y : LockT, Fn (Cfg.mk Try.prog (ttAt ttl) ttl_ok.ok mixd) f [IV.agg (cL x), IV.agg (cL y)] (IV.int (cmpN x.key y.key))) :
    FnE (Cfg.mk Try.prog (ttAt ttl) ttl_ok.ok mixd) 76 1 [.row 0 xs.length, .im (IV.int 0), .im (IV.int xs.length), .im (IV.fn f [])] [(0, .row 102 2 cL xs)] (.im (IV.tup [])) [(0, .row 102 2 cL (isort xs))] 1 [0] := by
  refine FnE.of_wp _ [(0, 0)] Try.func76 rfl (by kernel_rfl) Try.ntmps76 rfl rfl rfl rfl rfl rfl rfl rfl rfl ?_
  intro F vs hD hvs
  obtain ⟨v0, v1, v2, v3, rfl⟩ := len4 hvs
  show WP _ _ _ _ _ ⟨[(0, .is v0 (.row 0 xs.length)), (1, .im (IV.int 0)), (2, .im (IV.int xs.length)), (3, .im (IV.fn f []))], [(0, .row 102 2 cL xs)], 1⟩
  ((repeat apply WP.seq); apply WP.lreg; refine nM rfl rfl ?_; refine ALK.n OpN.ar rfl ?_; refine nA rfl rfl ?_; refine ALK.nil ?_; try show WP _ _ _ _ _ _)
  have h1 : xs = isort (xs.take 1) ++ xs.drop 1 := by
    cases xs with
    | nil => rfl
    | cons x l => rfl
  ((repeat apply WP.seq); apply WP.block)
  refine WP.loop (fun i : Nat => ⟨[(8, .im (IV.int i)), (0, .is v0 (.row 0 xs.length)), (1, .im (IV.int 0)), (2, .im (IV.int xs.length)), (3, .im (IV.fn f []))], [(0, .row 102 2 cL (isort (xs.take i) ++ xs.drop i))], 1⟩) (fun i => 1 ≤ i ∧ i ≤ 13) (fun i => 13 - i) 1 ⟨by omega, by omega⟩ (Shift.sub [(0, 0)] rfl SubE.a (SubH.cons rfl rfl (ObLe.row h1) SubH.nil)) ?_
  rintro i ⟨hi1, hi⟩
  ((repeat apply WP.seq); apply WP.lreg; refine nM rfl rfl ?_; refine nM rfl rfl ?_; refine ALK.n OpN.cm rfl ?_; refine ALK.nil ?_; try show WP _ _ _ _ _ _)
  ((repeat apply WP.seq); refine WP.cond rfl (fun h => ?_) (fun h => ?_))
  · (refine WP.skip ?_; show WP _ _ _ _ _ _)
    have hlt : i < xs.length := by simpa using h
    obtain ⟨x, hx⟩ := get_at hlt
    have hd : xs.drop i = x :: xs.drop (i + 1) := by
      rw [List.drop_eq_getElem_cons hlt]
      rw [List.getElem?_eq_getElem hlt] at hx
      injection hx with hx
      rw [hx]
    have hs : isort (xs.take (i + 1)) = insB x (isort (xs.take i)) := by rw [List.take_add_one, hx]; exact isort_snoc _ _
    obtain ⟨s, hse⟩ : ∃ s, s = isort (xs.take i) := ⟨_, rfl⟩
    obtain ⟨r, hre⟩ : ∃ r, r = xs.drop (i + 1) := ⟨_, rfl⟩
    have hsl : s.length = i := by rw [hse, isort_len, List.length_take]; omega
    have hrl : r.length = xs.length - (i + 1) := by rw [hre, List.length_drop]
    rw [hd, ← hse, ← hre]
    ((repeat apply WP.seq); apply WP.block)
    ((repeat apply WP.seq); apply WP.lreg; refine nM rfl rfl ?_; refine nA rfl rfl ?_; refine ALK.nil ?_; try show WP _ _ _ _ _ _)
    ((repeat apply WP.seq); apply WP.block)
    refine WP.loop (fun c : List LockT × List LockT => ⟨[(9, .im (IV.int c.1.length)), (8, .im (IV.int i)), (0, .is v0 (.row 0 xs.length)), (1, .im (IV.int 0)), (2, .im (IV.int xs.length)), (3, .im (IV.fn f []))], [(0, .row 102 2 cL (c.1 ++ x :: (c.2 ++ r)))], 1⟩) (fun c => s = c.1 ++ c.2 ∧ insB x s = insB x c.1 ++ c.2) (fun c => c.1.length) (s, []) ⟨by simp, by simp⟩ (Shift.sub [(0, 0)] rfl (by repeat (first | exact SubE.nil | refine SubE.cons rfl (by first | exact SLe.im (ILe.int (by rw [hsl])) | exact SLe.a) ?_)) (SubH.cons rfl rfl (ObLe.row rfl) SubH.nil)) ?_
    rintro ⟨p, q⟩ ⟨hpq, hin⟩
    have hpq2 := congrArg List.length hpq
    simp only [List.length_append] at hpq2
    rcases List.eq_nil_or_concat p with rfl | ⟨p', y, rfl⟩
    · ((repeat apply WP.seq); apply WP.ldraw; refine nM rfl rfl ?_; refine nM rfl rfl ?_; refine ALK.n OpN.cm rfl ?_; refine nM rfl rfl ?_; refine ALK.g (s := .im IV.any) (fun hb => absurd hb (by first | (simp [gd]; done) | (simp_all [gd]; done))) rfl rfl rfl ?_; refine ALK.g (s := .im IV.any) (fun hb => absurd hb (by first | (simp [gd]; done) | (simp_all [gd]; done))) rfl rfl rfl ?_; refine ALK.g (s := .im IV.any) (fun hb => absurd hb (by first | (simp [gd]; done) | (simp_all [gd]; done))) rfl rfl rfl ?_; refine ALK.g (s := .im IV.any) (fun hb => absurd hb (by first | (simp [gd]; done) | (simp_all [gd]; done))) rfl rfl rfl ?_; refine ALK.g (s := .im IV.any) (fun hb => absurd hb (by first | (simp [gd]; done) | (simp_all [gd]; done))) rfl rfl rfl ?_; refine ALK.g (s := .im IV.any) (fun hb => absurd hb (by first | (simp [gd]; done) | (simp_all [gd]; done))) rfl rfl rfl ?_; refine ALK.g (s := .im IV.any) (fun hb => absurd hb (by first | (simp [gd]; done) | (simp_all [gd]; done))) rfl rfl rfl ?_; refine ALK.g (s := .im IV.any) (fun hb => absurd hb (by first | (simp [gd]; done) | (simp_all [gd]; done))) rfl rfl rfl ?_; refine ALK.g (s := .im IV.any) (fun hb => absurd hb (by first | (simp [gd]; done) | (simp_all [gd]; done))) rfl rfl rfl ?_; refine ALK.g (s := .im IV.any) (fun hb => absurd hb (by first | (simp [gd]; done) | (simp_all [gd]; done))) rfl rfl rfl ?_; refine ALK.g (s := .im IV.any) (fun hb => absurd hb (by first | (simp [gd]; done) | (simp_all [gd]; done))) rfl rfl rfl ?_; refine ALK.g (s := .im IV.any) (fun hb => absurd hb (by first | (simp [gd]; done) | (simp_all [gd]; done))) rfl rfl rfl ?_; refine ALK.n (opn_pick_no (eB rfl) (eB rfl)) rfl ?_; refine ALK.nilD (by kernel_rfl) ?_; try show WP _ _ _ _ _ _)
      ((repeat apply WP.seq); refine WP.cond rfl (fun h => ?_) (fun h => ?_))
      · cases h
      · ((repeat apply WP.seq); refine WP.exit ?_; show WP _ _ _ _ _ _)
        ((repeat apply WP.seq); apply WP.lreg; refine nM rfl rfl ?_; refine ALK.n OpN.ar rfl ?_; refine nA rfl rfl ?_; refine ALK.nil ?_; try show WP _ _ _ _ _ _)
        show ∃ _, _ ∧ _ ∧ _
        have hfin : isort (xs.take (i + 1)) ++ xs.drop (i + 1) = [] ++ x :: (q ++ r) := by rw [hs, ← hse, hin, ← hre]; simp [insB_nil]
        exact ⟨i + 1, ⟨by omega, by omega⟩, by omega, Shift.sub [(0, 0)] rfl SubE.a (SubH.cons rfl rfl (ObLe.row hfin.symm) SubH.nil)⟩
    · rw [List.concat_eq_append] at hpq hin hpq2 ⊢
      have hpl : (p' ++ [y]).length = p'.length + 1 := by simp
      have hlt2 : p'.length + 1 < xs.length := by rw [hpl] at hpq2; omega
      have e1 : (p' ++ [y] ++ x :: (q ++ r))[p'.length + 1]? = some x := by rw [← hpl]; exact at_mid
      have e2 : (p' ++ [y] ++ x :: (q ++ r))[(((p'.length + 1 : Nat) : Int) - 1).toNat]? = some y := by
        rw [show (((p'.length + 1 : Nat) : Int) - 1).toNat = p'.length by omega]
        rw [show p' ++ [y] ++ x :: (q ++ r) = p' ++ y :: (x :: (q ++ r)) by simp]; exact at_mid
      show WP _ _ _ _ _ ⟨[(9, .im (IV.int ((p' ++ [y]).length : Int))), (8, .im (IV.int i)), (0, .is v0 (.row 0 xs.length)), (1, .im (IV.int 0)), (2, .im (IV.int xs.length)), (3, .im (IV.fn f []))], [(0, .row 102 2 cL (p' ++ [y] ++ x :: (q ++ r)))], 1⟩
      rw [hpl]
      ((repeat apply WP.seq); apply WP.ldraw; refine nM rfl rfl ?_; refine nM rfl rfl ?_; refine ALK.n OpN.cm rfl ?_; refine nM rfl rfl ?_; refine ALK.ny (opn_move (eB rfl)) rfl rfl (by first | rfl | assumption | (simp [gd]; done) | (simp_all [gd]; done)) rfl ?_; refine ALK.ny (opn_move (Ev.is rfl)) rfl rfl (by first | rfl | assumption | (simp [gd]; done) | (simp_all [gd]; done)) rfl ?_; refine ALK.ny (opn_move (eB rfl)) rfl rfl (by first | rfl | assumption | (simp [gd]; done) | (simp_all [gd]; done)) rfl ?_; (first | refine ALK.ny (opn_index rfl (eB rfl) (eB rfl) (by omega) (by assumption)) rfl rfl (by first | rfl | assumption | (simp [gd]; done) | (simp_all [gd]; done)) rfl ?_ | refine ALK.ny (opn_indexRow1 rfl (eB rfl) (eB rfl) (by omega) (by omega)) rfl rfl (by first | rfl | assumption | (simp [gd]; done) | (simp_all [gd]; done)) rfl ?_ | refine ALK.ny (opn_indexRow rfl (eB rfl) (eB rfl) (by omega) (by omega)) rfl rfl (by first | rfl | assumption | (simp [gd]; done) | (simp_all [gd]; done)) rfl ?_ | refine ALK.ny (opn_indexArr rfl (eB rfl) (eB rfl) (by omega) (by omega)) rfl rfl (by first | rfl | assumption | (simp [gd]; done) | (simp_all [gd]; done)) rfl ?_ | refine ALK.ny (opn_indexArrI rfl (eB rfl) (eB rfl) (by omega) (by omega)) rfl rfl (by first | rfl | assumption | (simp [gd]; done) | (simp_all [gd]; done)) rfl ?_); (first | refine ALK.ny (opn_load rfl (eB rfl) rfl) rfl rfl (by first | rfl | assumption | (simp [gd]; done) | (simp_all [gd]; done)) rfl ?_ | refine ALK.ry (opr_load rfl (eB rfl) rfl rfl) rfl rfl (by first | rfl | assumption | (simp [gd]; done) | (simp_all [gd]; done)) rfl ?_ | refine ALK.ry (opr_loadRow rfl rfl (eB rfl) rfl (by assumption) rfl) rfl rfl (by first | rfl | assumption | (simp [gd]; done) | (simp_all [gd]; done)) rfl ?_ | refine ALK.ry (opr_loadK0 rfl (eB rfl) rfl (by assumption) rfl) rfl rfl (by first | rfl | assumption | (simp [gd]; done) | (simp_all [gd]; done)) rfl ?_ | refine ALK.ry (opr_loadK rfl (eB rfl) rfl (by assumption) rfl) rfl rfl (by first | rfl | assumption | (simp [gd]; done) | (simp_all [gd]; done)) rfl ?_); refine ALK.ny (opn_move (Ev.is rfl)) rfl rfl (by first | rfl | assumption | (simp [gd]; done) | (simp_all [gd]; done)) rfl ?_; refine ALK.ny (opn_move (eB rfl)) rfl rfl (by first | rfl | assumption | (simp [gd]; done) | (simp_all [gd]; done)) rfl ?_; (first | refine ALK.ny (opn_arith (eB rfl) (eB rfl) (arith_in rfl (by omega) (by omega))) rfl rfl (by first | rfl | assumption | (simp [gd]; done) | (simp_all [gd]; done)) rfl ?_ | refine ALK.ny (opn_arith (eB rfl) (eB rfl) rfl) rfl rfl (by first | rfl | assumption | (simp [gd]; done) | (simp_all [gd]; done)) rfl ?_); (first | refine ALK.ny (opn_index rfl (eB rfl) (eB rfl) (by omega) (by assumption)) rfl rfl (by first | rfl | assumption | (simp [gd]; done) | (simp_all [gd]; done)) rfl ?_ | refine ALK.ny (opn_indexRow1 rfl (eB rfl) (eB rfl) (by omega) (by omega)) rfl rfl (by first | rfl | assumption | (simp [gd]; done) | (simp_all [gd]; done)) rfl ?_ | refine ALK.ny (opn_indexRow rfl (eB rfl) (eB rfl) (by omega) (by omega)) rfl rfl (by first | rfl | assumption | (simp [gd]; done) | (simp_all [gd]; done)) rfl ?_ | refine ALK.ny (opn_indexArr rfl (eB rfl) (eB rfl) (by omega) (by omega)) rfl rfl (by first | rfl | assumption | (simp [gd]; done) | (simp_all [gd]; done)) rfl ?_ | refine ALK.ny (opn_indexArrI rfl (eB rfl) (eB rfl) (by omega) (by omega)) rfl rfl (by first | rfl | assumption | (simp [gd]; done) | (simp_all [gd]; done)) rfl ?_); (first | refine ALK.ny (opn_load rfl (eB rfl) rfl) rfl rfl (by first | rfl | assumption | (simp [gd]; done) | (simp_all [gd]; done)) rfl ?_ | refine ALK.ry (opr_load rfl (eB rfl) rfl rfl) rfl rfl (by first | rfl | assumption | (simp [gd]; done) | (simp_all [gd]; done)) rfl ?_ | refine ALK.ry (opr_loadRow rfl rfl (eB rfl) rfl (by assumption) rfl) rfl rfl (by first | rfl | assumption | (simp [gd]; done) | (simp_all [gd]; done)) rfl ?_ | refine ALK.ry (opr_loadK0 rfl (eB rfl) rfl (by assumption) rfl) rfl rfl (by first | rfl | assumption | (simp [gd]; done) | (simp_all [gd]; done)) rfl ?_ | refine ALK.ry (opr_loadK rfl (eB rfl) rfl (by assumption) rfl) rfl rfl (by first | rfl | assumption | (simp [gd]; done) | (simp_all [gd]; done)) rfl ?_); refine ALK.ny (opn_callFn (eB rfl) (hf x y) (Evs.cons Ev.a (Evs.cons Ev.a Evs.nil))) rfl rfl (by first | rfl | assumption | (simp [gd]; done) | (simp_all [gd]; done)) rfl ?_; (first | refine ALK.ny (opn_cmp (eB rfl) (eB rfl) rfl) rfl rfl (by first | rfl | assumption | (simp [gd]; done) | (simp_all [gd]; done)) rfl ?_ | refine ALK.ny (opn_cmpB rfl (eB rfl) (eB rfl) rfl) rfl rfl (by first | rfl | assumption | (simp [gd]; done) | (simp_all [gd]; done)) rfl ?_); refine ALK.n (opn_pick_andP (eB rfl) (eB rfl) (eB rfl)) rfl ?_; refine ALK.nilD (by kernel_rfl) ?_; try show WP _ _ _ _ _ _)
      ((repeat apply WP.seq); refine WP.cond rfl (fun h => ?_) (fun h => ?_))
      · (refine WP.skip ?_; show WP _ _ _ _ _ _)
        have hc : x.key < y.key := by
          simp at h
          unfold cmpN at h
          split at h
          · assumption
          · split at h <;> omega
        ((repeat apply WP.seq); apply WP.block)
        ((repeat apply WP.seq); apply WP.ldraw; refine ALK.n (opn_move (Ev.is rfl)) rfl ?_; refine nM rfl rfl ?_; refine ALK.n (opn_move (Ev.is rfl)) rfl ?_; refine nM rfl rfl ?_; refine ALK.n OpN.ar rfl ?_; refine ALK.n (opn_move (Ev.is rfl)) rfl ?_; refine nM rfl rfl ?_; refine ALK.n OpN.ar rfl ?_; refine ALK.n OpN.ix rfl ?_; (first | refine ALK.n (opn_load rfl (eB rfl) rfl) rfl ?_ | refine ALK.r OpR.ld rfl ?_); refine ALK.n (opn_move (Ev.is rfl)) rfl ?_; refine nM rfl rfl ?_; refine ALK.n OpN.ix rfl ?_; (first | refine ALK.n (opn_load rfl (eB rfl) rfl) rfl ?_ | refine ALK.r OpR.ld rfl ?_); refine ALK.n OpN.ix rfl ?_; refine ALK.e (ope_storeK0 (k := 2) y rfl (eB rfl) (eB rfl) cs_agg rfl rfl e1 rfl) rfl rfl ?_; refine ALK.n OpN.ix rfl ?_; refine ALK.e (ope_storeK0 (k := 2) x rfl (eB rfl) (eB rfl) cs_agg rfl rfl (u := y) (by rw [List.getElem?_set_ne (by omega)]; exact e2) rfl) rfl rfl ?_; refine ALK.nilD (by kernel_rfl) ?_; try show WP _ _ _ _ _ _)
        ((repeat apply WP.seq); apply WP.lreg; refine nM rfl rfl ?_; refine ALK.n OpN.ar rfl ?_; refine nA rfl rfl ?_; refine ALK.nil ?_; try show WP _ _ _ _ _ _)
        show ∃ _, _ ∧ _ ∧ _
        have hnew : ((p' ++ [y] ++ x :: (q ++ r)).set (p'.length + 1) y).set ((((p'.length + 1 : Nat) : Int) - 1).toNat) x = p' ++ x :: ((y :: q) ++ r) := by
          rw [show (((p'.length + 1 : Nat) : Int) - 1).toNat = p'.length by omega]
          exact swap_mid
        refine ⟨(p', y :: q), ⟨by rw [hpq]; simp, by rw [hin, insB_lt hc]; simp⟩, by simp, Shift.sub [(0, 0)] rfl (by repeat (first | exact SubE.nil | refine SubE.cons rfl (by first | exact SLe.im (ILe.int (show ((p'.length + 1 : Nat) : Int) - 1 = (p'.length : Int) by omega)) | exact SLe.a) ?_)) (SubH.cons rfl rfl (ObLe.row hnew) SubH.nil)⟩
      · ((repeat apply WP.seq); refine WP.exit ?_; show WP _ _ _ _ _ _)
        have hc : ¬ x.key < y.key := by
          intro hc
          simp [cmpN, hc] at h
        ((repeat apply WP.seq); apply WP.lreg; refine nM rfl rfl ?_; refine ALK.n OpN.ar rfl ?_; refine nA rfl rfl ?_; refine ALK.nil ?_; try show WP _ _ _ _ _ _)
        show ∃ _, _ ∧ _ ∧ _
        have hfin : isort (xs.take (i + 1)) ++ xs.drop (i + 1) = p' ++ [y] ++ x :: (q ++ r) := by rw [hs, ← hse, hin, insB_ge hc, ← hre]; simp
        exact ⟨i + 1, ⟨by omega, by omega⟩, by omega, Shift.sub [(0, 0)] rfl SubE.a (SubH.cons rfl rfl (ObLe.row hfin.symm) SubH.nil)⟩
  · have hge : xs.length ≤ i := by simp at h; omega
    rw [List.take_of_length_le hge, List.drop_of_length_le hge, List.append_nil]
    refine WP.exit ?_
    exact RetOkE.none Try.results76 HSb.a Kept.a
end Go.Proofs.Ytjgmbgfcffnanad
