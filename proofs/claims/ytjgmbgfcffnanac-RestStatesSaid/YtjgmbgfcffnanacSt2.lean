/- Package store and its reference: many transactions. -/
import Derived.Test.YtjgmbgfcffnanacSt
import Derived.Test.YtjgmbgfcffnanacSame
namespace Go.Proofs.Ytjgmbgfcffnanac
open Go.RowKit

abbrev ressV (l : List Res) : IV := IV.view 2 cR l
def res0 : Res := ⟨false, []⟩
def applyE (st : List Int) (t : Txn) : Int := if st.length = 8 then checkTxn t else 1
def applyL (st : List Int) (t : Txn) : List Int := if applyE st t = 0 then applyS st t else []
def applyV (st : List Int) (t : Txn) : Res := if applyE st t = 0 then applyR st t else res0
def serE (st : List Int) (l : List Txn) : Int := if st.length = 8 then checkTxns l else 1
def serS (st : List Int) (l : List Txn) : List Int := l.foldl applyS st
def serR : List Int → List Txn → List Res
  | _, [] => []
  | st, t :: l => applyR st t :: serR (applyS st t) l
def serL (st : List Int) (l : List Txn) : List Int := if serE st l = 0 then serS st l else []
def serV (st : List Int) (l : List Txn) : List Res := if serE st l = 0 then serR st l else []
theorem applyS_len (st : List Int) (t : Txn) : (applyS st t).length = st.length := putZ_length _ _
theorem serS_len (st : List Int) (l : List Txn) : (serS st l).length = st.length := by
  induction l generalizing st with
  | nil => rfl
  | cons t l ih => show (serS (applyS st t) l).length = _; rw [ih, applyS_len]
theorem serS_snoc (st : List Int) (l : List Txn) (t : Txn) : serS st (l ++ [t]) = applyS (serS st l) t := by unfold serS; rw [List.foldl_append]; rfl
theorem serR_append (st : List Int) (l m : List Txn) : serR st (l ++ m) = serR st l ++ serR (serS st l) m := by
  induction l generalizing st with
  | nil => rfl
  | cons t l ih => show applyR st t :: serR (applyS st t) (l ++ m) = _; rw [ih]; rfl
theorem serR_len (st : List Int) (l : List Txn) : (serR st l).length = l.length := by
  induction l generalizing st with
  | nil => rfl
  | cons t l ih => show (serR (applyS st t) l).length + 1 = _; rw [ih]; rfl

theorem Clone_row (xs : List Int) (hn : xs.length ≤ 8796093022208) : FnRow (Cfg.mk Try.prog (ttAt ttl) ttl_ok.ok mixd) 70 [intsV xs] 3 1 cI xs := by
  refine ⟨⟨⟨_, Try.func70, rfl, by kernel_rfl⟩, fun _ => rfl⟩, fun μ w vs hvs ha => ?_⟩
  obtain ⟨a, vs1, rfl, h1, rfl⟩ := hvs
  obtain ⟨A, c, rfl, _, _, hrd⟩ := view_rd ha (enc' := encI) (fun _ => rfl) (fun _ => by simp [encI]) h1
  refine (slices_Clone_int A xs.length c xs w hrd hn).mono ?_
  rintro e w' ⟨v, rfl, ho, hb⟩
  have hiv : ∀ xs : List Int, IVs μ (xs.flatMap cI) (xs.flatMap encI) := fun xs => by
    induction xs with
    | nil => rfl
    | cons x xs ih => exact ⟨_, _, rfl, rfl, ih⟩
  refine ⟨v, μ, xs.flatMap encI, rfl, ho, hiv xs, fun u hu => ?_, fun g hg => ?_, Stp.of_below ha hb⟩
  · obtain ⟨x, _, hx⟩ := List.mem_flatMap.1 hu
    simp [encI] at hx; subst hx; rfl
  · cases e : μ g with
    | none => rfl
    | some c =>
      have h1 := ha.lt (b := g) (by rw [e]; simp)
      have h2 := (World.ownsRow.lt ho g hg).1
      omega

set_option maxRecDepth 100000 in
theorem store_Check_fn (st : List Int) : Fn (Cfg.mk Try.prog (ttAt ttl) ttl_ok.ok mixd) 69 [intsV st] (IV.int (if st.length = 8 then 0 else 1)) := by
  refine Fn.of_wp _ Try.func69 rfl (by kernel_rfl) Try.ntmps69 rfl ?_
  intro F hD hG
  refine WP.len 0 rfl (fun hl1 => ?_)
  ((repeat apply WP.seq); apply WP.lreg; refine nA rfl rfl ?_; refine ALK.nil ?_; try show WP _ _ _ _ _ _)
  ((repeat apply WP.seq); apply WP.lreg; refine nM rfl rfl ?_; refine ALK.n OpN.ln rfl ?_; refine ALK.n OpN.cm rfl ?_; refine ALK.nil ?_; try show WP _ _ _ _ _ _)
  ((repeat apply WP.seq); refine WP.cond rfl (fun h => ?_) (fun h => ?_))
  · ((repeat apply WP.seq); apply WP.lreg; refine nA rfl rfl ?_; refine ALK.nil ?_; try show WP _ _ _ _ _ _)
    have hr : (if st.length = 8 then (0 : Int) else 1) = 1 := by rw [if_neg (by simp at h; omega)]
    rw [hr]
    ((repeat apply WP.seq); refine WP.ret ?_; first | exact RetOk.one Try.results69 ResV.a | exact RetOk.tup Try.results69 rfl ResVs.a)
  (refine WP.skip ?_; show WP _ _ _ _ _ _)
  ((repeat apply WP.seq); apply WP.lreg; refine nA rfl rfl ?_; refine ALK.nil ?_; try show WP _ _ _ _ _ _)
  have hr : (if st.length = 8 then (0 : Int) else 1) = 0 := by rw [if_pos (by simp at h; omega)]
  rw [hr]
  ((repeat apply WP.seq); refine WP.ret ?_; first | exact RetOk.one Try.results69 ResV.a | exact RetOk.tup Try.results69 rfl ResVs.a)

set_option maxRecDepth 100000 in
theorem IsStore_fn (st : List Int) : Fn (Cfg.mk Try.prog (ttAt ttl) ttl_ok.ok mixd) 18 [intsV st] (IV.bool (decide (st.length = 8))) := by
  refine Fn.of_wp _ Try.func18 rfl (by kernel_rfl) Try.ntmps18 rfl ?_
  intro F hD hG
  ((repeat apply WP.seq); apply WP.lreg; refine nA rfl rfl ?_; refine ALK.nil ?_; try show WP _ _ _ _ _ _)
  ((repeat apply WP.seq); apply WP.lreg; refine nM rfl rfl ?_; refine ALK.n OpN.ln rfl ?_; refine ALK.n OpN.cm rfl ?_; refine nA rfl rfl ?_; refine ALK.nil ?_; try show WP _ _ _ _ _ _)
  have hr : decide (st.length = 8) = ((st.length : Int) == 8) := by
    rw [Bool.eq_iff_iff]; simp; omega
  rw [hr]
  ((repeat apply WP.seq); refine WP.ret ?_; first | exact RetOk.one Try.results18 ResV.a | exact RetOk.tup Try.results18 rfl ResVs.a)

end Go.Proofs.Ytjgmbgfcffnanac
