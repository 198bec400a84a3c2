/- Small functions of package slices at ints, and choose. -/
import Derived.Test.YtjgmbgfcffnanabL1
import Derived.Test.YtjgmbgfcffnanabLB
namespace Go.Proofs.Ytjgmbgfcffnanab
open Go.RowKit

def chooseN (n m : Int) : Int := (if n < 0 then -(n + 1) else n).tmod m
def idxP {α : Type} (p : α → Bool) (xs : List α) : Int := if xs.any p then (xs.findIdx p : Int) else -1
theorem idxP_ge {α : Type} (p : α → Bool) (xs : List α) : decide (idxP p xs ≥ 0) = xs.any p := by
  unfold idxP
  cases h : xs.any p with
  | true => simp
  | false => simp
theorem idxP_at {α : Type} {p : α → Bool} {xs : List α} {k : Nat} {x : α} (h : ∀ y ∈ xs.take k, p y = false) (hx : xs[k]? = some x) (hp : p x = true) : idxP p xs = k := by
  have hk : k < xs.length := (List.getElem?_eq_some_iff.1 hx).1
  have h1 : xs.any p = true := List.any_eq_true.2 ⟨x, List.mem_of_getElem? hx, hp⟩
  unfold idxP
  rw [if_pos h1]
  congr 1
  rw [List.findIdx_eq hk]
  refine ⟨by rw [List.getElem?_eq_getElem hk] at hx; injection hx with hx; rw [hx]; exact hp, fun j hj => ?_⟩
  have := h xs[j] (by rw [List.mem_take_iff_getElem]; exact ⟨j, by omega, rfl⟩)
  simp [this]
theorem idxP_none {α : Type} {p : α → Bool} {xs : List α} (h : ∀ y ∈ xs, p y = false) : idxP p xs = -1 := by
  unfold idxP
  rw [if_neg]
  intro h1
  obtain ⟨x, hx, hp⟩ := List.any_eq_true.1 h1
  rw [h x hx] at hp; cases hp
theorem take_next {α : Type} {p : α → Bool} {xs : List α} {k : Nat} {x : α} (h : ∀ y ∈ xs.take k, p y = false) (hx : xs[k]? = some x) (hp : p x = false) : ∀ y ∈ xs.take (k + 1), p y = false := fun y hy => by
  rw [List.take_add_one, List.mem_append, hx] at hy
  rcases hy with hy | hy
  · exact h y hy
  · simp at hy; subst hy; exact hp

set_option maxRecDepth 100000 in
theorem Index_fn (xs : List Int) (v : Int) : Fn (Cfg.mk Try.prog (ttAt ttl) ttl_ok.ok mixd) 152 [intsV xs, IV.int v] (IV.int (idxP (fun y => v == y) xs)) := by
  refine Fn.of_wp _ Try.func152 rfl (by kernel_rfl) Try.ntmps152 rfl ?_
  intro F hD hG
  refine WP.len 0 rfl (fun hl1 => ?_)
  ((repeat apply WP.seq); apply WP.lreg; refine nA rfl rfl ?_; refine ALK.nil ?_; try show WP _ _ _ _ _ _)
  ((repeat apply WP.seq); apply WP.lreg; refine nM rfl rfl ?_; refine ALK.n OpN.ln rfl ?_; refine nM rfl rfl ?_; refine ALK.nil ?_; try show WP _ _ _ _ _ _)
  ((repeat apply WP.seq); apply WP.block)
  refine WP.loop (fun k : Nat => ⟨[(8, .im (IV.int k)), (7, .im (IV.int xs.length)), (0, .im (intsV xs)), (1, .im (IV.int v))], [], 0⟩) (fun k => k ≤ xs.length ∧ ∀ y ∈ xs.take k, (v == y) = false) (fun k => xs.length - k) 0 ⟨Nat.zero_le _, by simp⟩ (Shift.sub [] rfl SubE.a SubH.nil) ?_
  rintro k ⟨hk, he⟩
  ((repeat apply WP.seq); apply WP.lreg; refine ALK.n OpN.cm rfl ?_; refine ALK.nil ?_; try show WP _ _ _ _ _ _)
  ((repeat apply WP.seq); refine WP.cond rfl (fun h => ?_) (fun h => ?_))
  · (refine WP.skip ?_; show WP _ _ _ _ _ _)
    have hlt : k < xs.length := by simpa using h
    obtain ⟨x, hx⟩ := get_at hlt
    ((repeat apply WP.seq); apply WP.block)
    ((repeat apply WP.seq); apply WP.lreg; refine nM rfl rfl ?_; refine nA rfl rfl ?_; refine ALK.nil ?_; try show WP _ _ _ _ _ _)
    ((repeat apply WP.seq); apply WP.lreg; refine nM rfl rfl ?_; refine nM rfl rfl ?_; refine nM rfl rfl ?_; refine ALK.n OpN.ix rfl ?_; (first | refine ALK.n (opn_load rfl (eB rfl) rfl) rfl ?_ | refine ALK.r OpR.ld rfl ?_); refine ALK.n OpN.cm rfl ?_; refine ALK.nil ?_; try show WP _ _ _ _ _ _)
    ((repeat apply WP.seq); refine WP.cond rfl (fun h => ?_) (fun h => ?_))
    · ((repeat apply WP.seq); apply WP.lreg; refine nM rfl rfl ?_; refine nA rfl rfl ?_; refine ALK.nil ?_; try show WP _ _ _ _ _ _)
      have hr : idxP (fun y => v == y) xs = k := idxP_at he hx h
      ((repeat apply WP.seq); refine WP.ret ?_; first | exact RetOk.one Try.results152 ResV.a | exact RetOk.tup Try.results152 rfl ResVs.a)
    (refine WP.skip ?_; show WP _ _ _ _ _ _)
    ((repeat apply WP.seq); apply WP.lreg; refine ALK.n OpN.ar rfl ?_; refine nM rfl rfl ?_; refine ALK.nil ?_; try show WP _ _ _ _ _ _)
    show ∃ _, _ ∧ _ ∧ _
    exact ⟨k + 1, ⟨by omega, take_next he hx h⟩, by omega, (Shift.sub [] rfl SubE.a SubH.nil)⟩
  · ((repeat apply WP.seq); refine WP.exit ?_; show WP _ _ _ _ _ _)
    ((repeat apply WP.seq); apply WP.lreg; refine nA rfl rfl ?_; refine ALK.nil ?_; try show WP _ _ _ _ _ _)
    have hr : idxP (fun y => v == y) xs = -1 := idxP_none (by rw [List.take_of_length_le (by simp at h; omega)] at he; exact he)
    ((repeat apply WP.seq); refine WP.ret ?_; first | exact RetOk.one Try.results152 ResV.a | exact RetOk.tup Try.results152 rfl ResVs.a)

set_option maxRecDepth 100000 in
theorem Contains_fn (xs : List Int) (v : Int) : Fn (Cfg.mk Try.prog (ttAt ttl) ttl_ok.ok mixd) 149 [intsV xs, IV.int v] (IV.bool (xs.any (fun y => v == y))) := by
  refine Fn.of_wp _ Try.func149 rfl (by kernel_rfl) Try.ntmps149 rfl ?_
  intro F hD hG
  ((repeat apply WP.seq); apply WP.lreg; refine nA rfl rfl ?_; refine ALK.nil ?_; try show WP _ _ _ _ _ _)
  ((repeat apply WP.seq); apply WP.lreg; refine nM rfl rfl ?_; refine nM rfl rfl ?_; refine ALK.n (opn_call (Index_fn _ _) (Evs.cons Ev.a (Evs.cons Ev.a Evs.nil))) rfl ?_; refine ALK.n OpN.cm rfl ?_; refine nA rfl rfl ?_; refine ALK.nil ?_; try show WP _ _ _ _ _ _)
  have hr : xs.any (fun y => v == y) = decide (idxP (fun y => v == y) xs ≥ 0) := (idxP_ge _ _).symm
  ((repeat apply WP.seq); refine WP.ret ?_; first | exact RetOk.one Try.results149 ResV.a | exact RetOk.tup Try.results149 rfl ResVs.a)

set_option maxRecDepth 100000 in
theorem IndexFunc_fn (xs : List Int) (f : FuncId) (caps : List IV) (p : Int → Bool) (hf : ∀ x ∈ xs, Fn (Cfg.mk Try.prog (ttAt ttl) ttl_ok.ok mixd) f ([IV.int x] ++ caps) (IV.bool (p x))) : Fn (Cfg.mk Try.prog (ttAt ttl) ttl_ok.ok mixd) 151 [intsV xs, IV.fn f caps] (IV.int (idxP p xs)) := by
  refine Fn.of_wp _ Try.func151 rfl (by kernel_rfl) Try.ntmps151 rfl ?_
  intro F hD hG
  refine WP.len 0 rfl (fun hl1 => ?_)
  ((repeat apply WP.seq); apply WP.lreg; refine nA rfl rfl ?_; refine ALK.nil ?_; try show WP _ _ _ _ _ _)
  ((repeat apply WP.seq); apply WP.lreg; refine nM rfl rfl ?_; refine ALK.n OpN.ln rfl ?_; refine nM rfl rfl ?_; refine ALK.nil ?_; try show WP _ _ _ _ _ _)
  ((repeat apply WP.seq); apply WP.block)
  refine WP.loop (fun k : Nat => ⟨[(8, .im (IV.int k)), (7, .im (IV.int xs.length)), (0, .im (intsV xs)), (1, .im (IV.fn f caps))], [], 0⟩) (fun k => k ≤ xs.length ∧ ∀ y ∈ xs.take k, p y = false) (fun k => xs.length - k) 0 ⟨Nat.zero_le _, by simp⟩ (Shift.sub [] rfl SubE.a SubH.nil) ?_
  rintro k ⟨hk, he⟩
  ((repeat apply WP.seq); apply WP.lreg; refine ALK.n OpN.cm rfl ?_; refine ALK.nil ?_; try show WP _ _ _ _ _ _)
  ((repeat apply WP.seq); refine WP.cond rfl (fun h => ?_) (fun h => ?_))
  · (refine WP.skip ?_; show WP _ _ _ _ _ _)
    have hlt : k < xs.length := by simpa using h
    obtain ⟨x, hx⟩ := get_at hlt
    ((repeat apply WP.seq); apply WP.block)
    ((repeat apply WP.seq); apply WP.lreg; refine nM rfl rfl ?_; refine nA rfl rfl ?_; refine ALK.nil ?_; try show WP _ _ _ _ _ _)
    ((repeat apply WP.seq); apply WP.lreg; refine nM rfl rfl ?_; refine nM rfl rfl ?_; refine nM rfl rfl ?_; refine ALK.n OpN.ix rfl ?_; (first | refine ALK.n (opn_load rfl (eB rfl) rfl) rfl ?_ | refine ALK.r OpR.ld rfl ?_); refine ALK.n (opn_callFn (by first | exact Ev.base rfl | exact Ev.cnd rfl (by assumption)) (hf x (List.mem_of_getElem? hx)) (Evs.cons Ev.a Evs.nil)) rfl ?_; refine ALK.nil ?_; try show WP _ _ _ _ _ _)
    ((repeat apply WP.seq); refine WP.cond rfl (fun h => ?_) (fun h => ?_))
    · ((repeat apply WP.seq); apply WP.lreg; refine nM rfl rfl ?_; refine nA rfl rfl ?_; refine ALK.nil ?_; try show WP _ _ _ _ _ _)
      have hr : idxP p xs = k := idxP_at he hx h
      ((repeat apply WP.seq); refine WP.ret ?_; first | exact RetOk.one Try.results151 ResV.a | exact RetOk.tup Try.results151 rfl ResVs.a)
    (refine WP.skip ?_; show WP _ _ _ _ _ _)
    ((repeat apply WP.seq); apply WP.lreg; refine ALK.n OpN.ar rfl ?_; refine nM rfl rfl ?_; refine ALK.nil ?_; try show WP _ _ _ _ _ _)
    show ∃ _, _ ∧ _ ∧ _
    exact ⟨k + 1, ⟨by omega, take_next he hx h⟩, by omega, (Shift.sub [] rfl SubE.a SubH.nil)⟩
  · ((repeat apply WP.seq); refine WP.exit ?_; show WP _ _ _ _ _ _)
    ((repeat apply WP.seq); apply WP.lreg; refine nA rfl rfl ?_; refine ALK.nil ?_; try show WP _ _ _ _ _ _)
    have hr : idxP p xs = -1 := idxP_none (by rw [List.take_of_length_le (by simp at h; omega)] at he; exact he)
    ((repeat apply WP.seq); refine WP.ret ?_; first | exact RetOk.one Try.results151 ResV.a | exact RetOk.tup Try.results151 rfl ResVs.a)

set_option maxRecDepth 100000 in
theorem ContainsFunc_fn (xs : List Int) (f : FuncId) (caps : List IV) (p : Int → Bool) (hf : ∀ x ∈ xs, Fn (Cfg.mk Try.prog (ttAt ttl) ttl_ok.ok mixd) f ([IV.int x] ++ caps) (IV.bool (p x))) : Fn (Cfg.mk Try.prog (ttAt ttl) ttl_ok.ok mixd) 147 [intsV xs, IV.fn f caps] (IV.bool (xs.any p)) := by
  refine Fn.of_wp _ Try.func147 rfl (by kernel_rfl) Try.ntmps147 rfl ?_
  intro F hD hG
  ((repeat apply WP.seq); apply WP.lreg; refine nA rfl rfl ?_; refine ALK.nil ?_; try show WP _ _ _ _ _ _)
  ((repeat apply WP.seq); apply WP.lreg; refine nM rfl rfl ?_; refine nM rfl rfl ?_; refine ALK.n (opn_call (IndexFunc_fn _ _ _ p hf) (Evs.cons Ev.a (Evs.cons Ev.a Evs.nil))) rfl ?_; refine ALK.n OpN.cm rfl ?_; refine nA rfl rfl ?_; refine ALK.nil ?_; try show WP _ _ _ _ _ _)
  have hr : xs.any p = decide (idxP p xs ≥ 0) := (idxP_ge _ _).symm
  ((repeat apply WP.seq); refine WP.ret ?_; first | exact RetOk.one Try.results147 ResV.a | exact RetOk.tup Try.results147 rfl ResVs.a)

set_option maxRecDepth 100000 in
theorem choose_fn (n m : Int) (hn : I64 n) (hm : 0 < m) : Fn (Cfg.mk Try.prog (ttAt ttl) ttl_ok.ok mixd) 28 [IV.int n, IV.int m] (IV.int (chooseN n m)) := by
  refine Fn.of_wp _ Try.func28 rfl (by kernel_rfl) Try.ntmps28 rfl ?_
  intro F hD hG
  ((repeat apply WP.seq); apply WP.lreg; refine nA rfl rfl ?_; refine ALK.nil ?_; try show WP _ _ _ _ _ _)
  ((repeat apply WP.seq); apply WP.lreg; refine nM rfl rfl ?_; refine ALK.n OpN.cm rfl ?_; refine ALK.nil ?_; try show WP _ _ _ _ _ _)
  unfold I64 at hn
  ((repeat apply WP.seq); refine WP.qshift ⟨[(4, .im (IV.int 0)), (1, .im (IV.int m)), (0, .im (IV.int (if n < 0 then -(n + 1) else n)))], [], 0⟩ (WP.cond rfl (fun h => ?_) (fun h => ?_)) ?_)
  · have h9 : n < 0 := by simpa using h
    ((repeat apply WP.seq); apply WP.lreg; refine nM rfl rfl ?_; refine ALK.n OpN.ar rfl ?_; refine ALK.n (opn_neg (eB rfl) (by omega) (by omega)) rfl ?_; refine nA rfl rfl ?_; refine ALK.nil ?_; try show WP _ _ _ _ _ _)
    have hr : -(n + 1) = if n < 0 then -(n + 1) else n := by simp at h; rw [if_pos h]
    show Shift _ _ _ _
    exact (Shift.sub [] rfl SubE.a SubH.nil)
  · refine WP.skip ?_; show Shift _ _ _ _
    have hr : n = if n < 0 then -(n + 1) else n := by simp at h; rw [if_neg (by omega)]
    exact (Shift.sub [] rfl SubE.a SubH.nil)
  have h8 : 0 ≤ (if n < 0 then -(n + 1) else n) := by split <;> omega
  ((repeat apply WP.seq); apply WP.lreg; refine nM rfl rfl ?_; refine nM rfl rfl ?_; refine ALK.n (opn_rem (eB rfl) (eB rfl) (by omega) (by omega)) rfl ?_; refine nA rfl rfl ?_; refine ALK.nil ?_; try show WP _ _ _ _ _ _)
  have hr : chooseN n m = (if n < 0 then -(n + 1) else n) % m := by
    unfold chooseN
    rw [Int.tmod_eq_emod_of_nonneg (by split <;> omega)]
  ((repeat apply WP.seq); refine WP.ret ?_; first | exact RetOk.one Try.results28 ResV.a | exact RetOk.tup Try.results28 rfl ResVs.a)

end Go.Proofs.Ytjgmbgfcffnanab
