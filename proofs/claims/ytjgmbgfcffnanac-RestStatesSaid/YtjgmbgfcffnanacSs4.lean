/- States of one's own. -/
import Derived.Test.YtjgmbgfcffnanacSs3
import Derived.Test.YtjgmbgfcffnanacEC
namespace Go.Proofs.Ytjgmbgfcffnanac
open Go.RowKit

theorem boolInfo : (Try.prog.info? 4).map (fun i => (i.zero, i.size, i.bytes)) = some (some (.bool false), 1, 1) := by kernel_rfl
def encBv (b : Bool) : List Value := [.bool b]
theorem encBv_len (x : Bool) : (encBv x).length = 1 := rfl
theorem oneBv (x : Bool) : ∀ u ∈ encBv x, u.oneCell' = true := by simp [encBv, Value.oneCell']
set_option maxRecDepth 100000 in
set_option maxHeartbeats 1000000 in
theorem slices_Clone_bool (A n c) (xs : List Bool) (w : World) (h : Rd 1 encBv w A n xs) (hn : n ≤ 8796093022208) :
    Calls Try.prog 116 #[.slice A n c] w fun e w' => ∃ v, e = .returned v ∧ Own 4 1 encBv w' w.heap.size v xs ∧ Below w.heap.size w w' := by
  obtain ⟨i0, hi0, hz0, hz1, hz2⟩ := info_parts boolInfo
  have hq : ∀ (w : World) (a : Option Addr) (n c n' c' : Nat), (binOp .eql 50 (.slice a n c) (.slice none n' c')).run Try.prog w = .ok (.bool a.isNone) w := fun w a n c n' c' => Lib.run_eql_slice_nil w _ _ a n c n' c' Try.underlying50
  rcases A with _ | ad
  · have hxs : xs = [] := by
      rcases h.2 with rfl | ⟨b, o, hA, _⟩
      · rfl
      · cases hA
    subst hxs
    go_enter Try.func116, Try.ntmps116
    go_wp2
    go_ret
    exact ⟨_, rfl, Own.nil, Below.refl _ _⟩
  · go_enter Try.func116, Try.ntmps116
    go_wp2_with (at_builtin; refine wpList_append_rd rfl _ _ _ rfl w.heap.size 4 i0 (.bool false) 1 1 Try.underlying50 hi0 hz0 hz1 hz2 rfl (by decide) encBv_len oneBv _ [] rfl (Own.empty w rfl (Nat.le_refl _)) (some ad) n c xs rfl (h.alloc _) (by simp only [List.length_nil]; unfold maxLen; omega) (by simp only [List.length_nil]; omega) (by simp) ?_; intro v2 w2 hv2 hg2; have hb2 := (Own.empty (α := Bool) (E := 4) (k := 1) (enc := encBv) w rfl (Nat.le_refl _)).frame (Bel.alloc (Below.refl _ _) _) (Nat.le_refl _) hg2; rw [List.nil_append] at hv2)
    go_ret
    exact ⟨_, rfl, hv2, hb2⟩

theorem CloneB_row (xs : List Bool) (hn : xs.length ≤ 8796093022208) : FnRow (Cfg.mk Try.prog (ttAt ttl) ttl_ok.ok mixd) 116 [boolsV xs] 4 1 cB xs := by
  refine ⟨⟨⟨_, Try.func116, rfl, by kernel_rfl⟩, fun _ => rfl⟩, fun μ w vs hvs ha => ?_⟩
  obtain ⟨a, vs1, rfl, h1, rfl⟩ := hvs
  obtain ⟨A, c, rfl, _, _, hrd⟩ := view_rd ha (enc' := encBv) (fun _ => rfl) (fun _ => by simp [encBv]) h1
  refine (slices_Clone_bool A xs.length c xs w hrd hn).mono ?_
  rintro e w' ⟨v, rfl, ho, hb⟩
  have hiv : ∀ xs : List Bool, IVs μ (xs.flatMap cB) (xs.flatMap encBv) := fun xs => by
    induction xs with
    | nil => rfl
    | cons x xs ih => exact ⟨_, _, rfl, rfl, ih⟩
  refine ⟨v, μ, xs.flatMap encBv, rfl, ho, hiv xs, fun u hu => ?_, fun g hg => ?_, Stp.of_below ha hb⟩
  · obtain ⟨x, _, hx⟩ := List.mem_flatMap.1 hu
    simp [encBv] at hx; subst hx; rfl
  · cases e : μ g with
    | none => rfl
    | some c =>
      have h1 := ha.lt (b := g) (by rw [e]; simp)
      have h2 := (World.ownsRow.lt ho g hg).1
      omega


theorem take_snocD {α : Type} {l : List (List α)} {n : Nat} (h : n < l.length) : l.take (n + 1) = l.take n ++ [l.getD n []] := take_snoc (getD_of_lt [] h)
abbrev nestB (l : List (List Bool)) : HObj := .nest 50 4 1 cB l
abbrev nestI (l : List (List Int)) : HObj := .nest 25 3 1 cI l
abbrev rowI (l : List Int) : HObj := .row 3 1 cI l
/- a state of one's own: its slot, and what it owns -/
abbrev ownSV (s : StT) (a b c d : Nat) : SV := .agg [.row a s.store.length, .row b s.rd.length, .row c s.wr.length, .row d s.vals.length]
abbrev ownH (s : StT) (a b c d : Nat) : List Ent := [(a, rowI s.store), (b, nestB s.rd), (c, nestB s.wr), (d, nestI s.vals)]
theorem opn_nestT {α : Type} {rn : List (Nat × Nat)} {t et k : Nat} {enc : α → List IV} {l l' : List (List α)} (h : l = l') : ObLe rn (.nest t et k enc l) (.nest t et k enc l') := .nest h
set_option maxRecDepth 100000 in
set_option maxHeartbeats 1000000 in
theorem Own_new (s : StT) (h1 : s.store.length ≤ 1000) (h2 : s.rd.length ≤ 8) (h3 : s.wr.length = s.rd.length) (h4 : s.vals.length = s.rd.length) (h5 : ∀ l ∈ s.rd, l.length ≤ 1000) (h6 : ∀ l ∈ s.wr, l.length ≤ 1000) (h7 : ∀ l ∈ s.vals, l.length ≤ 1000) :
    FnE (Cfg.mk Try.prog (ttAt ttl) ttl_ok.ok mixd) 62 0 [.im (stV s)] [] (ownSV s 0 1 17 33) (ownH s 0 1 17 33) 49 [] := by
  refine FnE.of_wp _ [] Try.func62 rfl (by kernel_rfl) Try.ntmps62 rfl rfl rfl rfl rfl rfl rfl rfl rfl ?_
  intro F vs hD hvs
  obtain ⟨v0, rfl⟩ := len1 hvs
  show WP _ _ _ _ _ ⟨[(0, .im (stV s))], [], 0⟩
  ((repeat apply WP.seq); apply WP.lreg; refine ALK.n (opn_box (eB rfl) Cs.a rfl) rfl ?_; refine ALK.a (opa_alloc rfl rfl) rfl ?_; refine ALK.nil ?_; try show WP _ _ _ _ _ _)
  ((repeat apply WP.seq); apply WP.lreg; (first | refine ALK.n (opn_field (o := 0) rfl (eB rfl)) rfl ?_ | refine ALK.n (opn_fieldOff (o := 0) rfl (eB rfl)) rfl ?_); (first | refine ALK.n (opn_load rfl (eB rfl) rfl) rfl ?_ | refine ALK.r OpR.ld rfl ?_); refine ALK.a (opa_callRow (Clone_row s.store (by omega)) (Evs.cons Ev.a Evs.nil)) rfl ?_; (first | refine ALK.n (opn_build rfl rfl rfl rfl (Pc rfl (eB rfl) Cs.a rfl rfl Parts.nil)) rfl ?_ | refine ALK.n (opn_buildA rfl rfl rfl rfl rfl (Pc rfl (eB rfl) Cs.a rfl rfl Parts.nil)) rfl ?_); refine ALK.a (opa_alloc rfl rfl) rfl ?_; (first | refine ALK.e (ope_store rfl (eB rfl) (eB rfl) Cs.a rfl rfl rfl) rfl rfl ?_ | refine ALK.e (ope_storeRow rfl rfl (eB rfl) (eB rfl) (oc_val rfl) rfl rfl (by assumption)) rfl rfl ?_); refine ALK.nil ?_; try show WP _ _ _ _ _ _)
  refine WP.shift (Shift.nest0In 2 1 50 4 1 cB (fun _ => rfl) rfl rfl rfl) ?_
  refine WP.shift (Shift.nest0In 2 2 50 4 1 cB (fun _ => rfl) rfl rfl rfl) ?_
  refine WP.shift (Shift.nest0In 2 3 25 3 1 cI (fun _ => rfl) rfl rfl rfl) ?_
  ((repeat apply WP.seq); apply WP.lreg; (first | refine ALK.n (opn_field (o := 1) rfl (eB rfl)) rfl ?_ | refine ALK.n (opn_fieldOff (o := 1) rfl (eB rfl)) rfl ?_); (first | refine ALK.n (opn_load rfl (eB rfl) rfl) rfl ?_ | refine ALK.r OpR.ld rfl ?_); refine ALK.n OpN.ln rfl ?_; refine nM rfl rfl ?_; refine ALK.nil ?_; try show WP _ _ _ _ _ _)
  ((repeat apply WP.seq); apply WP.block)
  refine WP.loop (fun n : Nat => ⟨[(12, .im (IV.int n)), (10, .im (bbV s.rd)), (11, .im (IV.int s.rd.length)), (1, .im (IV.ptr (cSt s))), (2, .off 0 0), (3, .off 2 0)], [(0, .blk 29 [.im (IV.val (.slice none 0 0)), .im (IV.val (.slice none 0 0)), .im (IV.val (.slice none 0 0)), .im (IV.val (.slice none 0 0))]), (1, rowI s.store), (2, .blk 29 [.row 1 s.store.length, .row 3 n, .row 19 n, .row 35 n]), (3, nestB (s.rd.take n)), (19, nestB (s.wr.take n)), (35, nestI (s.vals.take n))], 51⟩) (fun n => n ≤ s.rd.length) (fun n => s.rd.length - n) 0 (Nat.zero_le _)
    (Shift.sub ([(0, 0), (1, 1), (2, 2)] ++ rnN 3 3 ++ rnN 19 19 ++ rnN 35 35) rfl SubE.a (SubH.cons rfl rfl (ObLe.blk SLes.a) (SubH.cons rfl rfl (ObLe.row rfl) (SubH.cons rfl rfl (ObLe.blk SLes.a) (SubH.cons rfl rfl (ObLe.nest rfl) (SubH.cons rfl rfl (ObLe.nest rfl) (SubH.cons rfl rfl (ObLe.nest rfl) SubH.nil))))))) ?_
  rintro n hn
  ((repeat apply WP.seq); apply WP.lreg; refine ALK.n OpN.cm rfl ?_; refine ALK.nil ?_; try show WP _ _ _ _ _ _)
  ((repeat apply WP.seq); refine WP.cond rfl (fun h => ?_) (fun h => ?_))
  · (refine WP.skip ?_; show WP _ _ _ _ _ _)
    have hlt : n < s.rd.length := by simpa using h
    have e1 : s.rd[n]? = some (s.rd.getD n []) := getD_of_lt [] hlt
    have e2 : s.wr[n]? = some (s.wr.getD n []) := getD_of_lt [] (by omega)
    have e3 : s.vals[n]? = some (s.vals.getD n []) := getD_of_lt [] (by omega)
    have b1 := h5 _ (List.mem_of_getElem? e1)
    have b2 := h6 _ (List.mem_of_getElem? e2)
    have b3 := h7 _ (List.mem_of_getElem? e3)
    ((repeat apply WP.seq); apply WP.block)
    ((repeat apply WP.seq); apply WP.lreg; refine nM rfl rfl ?_; refine nA rfl rfl ?_; refine ALK.nil ?_; try show WP _ _ _ _ _ _)
    ((repeat apply WP.seq); apply WP.ldraw; (first | refine ALK.n (opn_field (o := 1) rfl (eB rfl)) rfl ?_ | refine ALK.n (opn_fieldOff (o := 1) rfl (eB rfl)) rfl ?_); (first | refine ALK.n (opn_load rfl (eB rfl) rfl) rfl ?_ | refine ALK.r OpR.ld rfl ?_); (first | refine ALK.n (opn_field (o := 1) rfl (eB rfl)) rfl ?_ | refine ALK.n (opn_fieldOff (o := 1) rfl (eB rfl)) rfl ?_); (first | refine ALK.n (opn_load rfl (eB rfl) rfl) rfl ?_ | refine ALK.r OpR.ld rfl ?_); refine nM rfl rfl ?_; refine ALK.n OpN.ix rfl ?_; (first | refine ALK.n (opn_load rfl (eB rfl) rfl) rfl ?_ | refine ALK.r OpR.ld rfl ?_); refine ALK.a (opa_callRow (CloneB_row (s.rd.getD n []) (by omega)) (Evs.cons Ev.a Evs.nil)) rfl ?_; refine ALK.n (opn_slitS rfl rfl rfl rfl rfl rfl (Pc rfl (eB rfl) Cs.a rfl rfl Parts.nil)) rfl ?_; refine ALK.e (ope_appendNest rfl rfl rfl rfl (eB rfl) (eB rfl) rfl rfl rfl (by rw [List.length_take]; omega)) rfl rfl ?_; (first | refine ALK.n (opn_field (o := 1) rfl (eB rfl)) rfl ?_ | refine ALK.n (opn_fieldOff (o := 1) rfl (eB rfl)) rfl ?_); (first | refine ALK.e (ope_store rfl (eB rfl) (eB rfl) Cs.a rfl rfl rfl) rfl rfl ?_ | refine ALK.e (ope_storeRow rfl rfl (eB rfl) (eB rfl) (oc_val rfl) rfl rfl (by assumption)) rfl rfl ?_); refine ALK.nilD (by kernel_rfl) ?_; try show WP _ _ _ _ _ _)
    ((repeat apply WP.seq); apply WP.ldraw; (first | refine ALK.n (opn_field (o := 2) rfl (eB rfl)) rfl ?_ | refine ALK.n (opn_fieldOff (o := 2) rfl (eB rfl)) rfl ?_); (first | refine ALK.n (opn_load rfl (eB rfl) rfl) rfl ?_ | refine ALK.r OpR.ld rfl ?_); (first | refine ALK.n (opn_field (o := 2) rfl (eB rfl)) rfl ?_ | refine ALK.n (opn_fieldOff (o := 2) rfl (eB rfl)) rfl ?_); (first | refine ALK.n (opn_load rfl (eB rfl) rfl) rfl ?_ | refine ALK.r OpR.ld rfl ?_); refine nM rfl rfl ?_; refine ALK.n OpN.ix rfl ?_; (first | refine ALK.n (opn_load rfl (eB rfl) rfl) rfl ?_ | refine ALK.r OpR.ld rfl ?_); refine ALK.a (opa_callRow (CloneB_row (s.wr.getD n []) (by omega)) (Evs.cons Ev.a Evs.nil)) rfl ?_; refine ALK.n (opn_slitS rfl rfl rfl rfl rfl rfl (Pc rfl (eB rfl) Cs.a rfl rfl Parts.nil)) rfl ?_; refine ALK.e (ope_appendNest rfl rfl rfl rfl (eB rfl) (eB rfl) rfl rfl rfl (by rw [List.length_take]; omega)) rfl rfl ?_; (first | refine ALK.n (opn_field (o := 2) rfl (eB rfl)) rfl ?_ | refine ALK.n (opn_fieldOff (o := 2) rfl (eB rfl)) rfl ?_); (first | refine ALK.e (ope_store rfl (eB rfl) (eB rfl) Cs.a rfl rfl rfl) rfl rfl ?_ | refine ALK.e (ope_storeRow rfl rfl (eB rfl) (eB rfl) (oc_val rfl) rfl rfl (by assumption)) rfl rfl ?_); refine ALK.nilD (by kernel_rfl) ?_; try show WP _ _ _ _ _ _)
    ((repeat apply WP.seq); apply WP.ldraw; (first | refine ALK.n (opn_field (o := 3) rfl (eB rfl)) rfl ?_ | refine ALK.n (opn_fieldOff (o := 3) rfl (eB rfl)) rfl ?_); (first | refine ALK.n (opn_load rfl (eB rfl) rfl) rfl ?_ | refine ALK.r OpR.ld rfl ?_); (first | refine ALK.n (opn_field (o := 3) rfl (eB rfl)) rfl ?_ | refine ALK.n (opn_fieldOff (o := 3) rfl (eB rfl)) rfl ?_); (first | refine ALK.n (opn_load rfl (eB rfl) rfl) rfl ?_ | refine ALK.r OpR.ld rfl ?_); refine nM rfl rfl ?_; refine ALK.n OpN.ix rfl ?_; (first | refine ALK.n (opn_load rfl (eB rfl) rfl) rfl ?_ | refine ALK.r OpR.ld rfl ?_); refine ALK.a (opa_callRow (Clone_row (s.vals.getD n []) (by omega)) (Evs.cons Ev.a Evs.nil)) rfl ?_; refine ALK.n (opn_slitS rfl rfl rfl rfl rfl rfl (Pc rfl (eB rfl) Cs.a rfl rfl Parts.nil)) rfl ?_; refine ALK.e (ope_appendNest rfl rfl rfl rfl (eB rfl) (eB rfl) rfl rfl rfl (by rw [List.length_take]; omega)) rfl rfl ?_; (first | refine ALK.n (opn_field (o := 3) rfl (eB rfl)) rfl ?_ | refine ALK.n (opn_fieldOff (o := 3) rfl (eB rfl)) rfl ?_); (first | refine ALK.e (ope_store rfl (eB rfl) (eB rfl) Cs.a rfl rfl rfl) rfl rfl ?_ | refine ALK.e (ope_storeRow rfl rfl (eB rfl) (eB rfl) (oc_val rfl) rfl rfl (by assumption)) rfl rfl ?_); refine ALK.nilD (by kernel_rfl) ?_; try show WP _ _ _ _ _ _)
    ((repeat apply WP.seq); apply WP.lreg; refine ALK.n OpN.ar rfl ?_; refine nM rfl rfl ?_; refine ALK.nil ?_; try show WP _ _ _ _ _ _)
    show ∃ _, _ ∧ _ ∧ _
    exact ⟨n + 1, by omega, by omega, Shift.sub ([(0, 0), (1, 1), (2, 2)] ++ rnN 3 52 ++ rnN 19 69 ++ rnN 35 86) rfl SubE.a (SubH.cons rfl rfl (ObLe.blk SLes.a) (SubH.cons rfl rfl (ObLe.row rfl) (SubH.cons rfl rfl (ObLe.blk (SLes.cons SLe.a (SLes.cons (SLe.row rfl (by rw [List.length_take]; omega)) (SLes.cons (SLe.row rfl (by rw [List.length_take]; omega)) (SLes.cons (SLe.row rfl (by rw [List.length_take]; omega)) SLes.nil))))) (SubH.cons rfl rfl (ObLe.nest (take_snocD hlt).symm) (SubH.cons rfl rfl (ObLe.nest (take_snocD (by omega)).symm) (SubH.cons rfl rfl (ObLe.nest (take_snocD (by omega)).symm) SubH.nil))))))⟩
  · ((repeat apply WP.seq); refine WP.exit ?_; show WP _ _ _ _ _ _)
    have hn2 : n = s.rd.length := by simp at h; omega
    subst hn2
    ((repeat apply WP.seq); apply WP.lreg; (first | refine ALK.n (opn_load rfl (eB rfl) rfl) rfl ?_ | refine ALK.r OpR.ld rfl ?_); (first | refine ALK.e (ope_store rfl (eB rfl) (eB rfl) Cs.a rfl rfl rfl) rfl rfl ?_ | refine ALK.e (ope_storeRow rfl rfl (eB rfl) (eB rfl) (oc_val rfl) rfl rfl (by assumption)) rfl rfl ?_); refine ALK.nil ?_; try show WP _ _ _ _ _ _)
    refine WP.shift (Shift.sub (σ' := [(2, .off 49 0)]) (H' := (49, .blk 29 [.row 0 s.store.length, .row 1 s.rd.length, .row 17 s.wr.length, .row 33 s.vals.length]) :: ownH s 0 1 17 33) (fr' := 50) ([(0, 1), (49, 0)] ++ rnN 1 3 ++ rnN 17 19 ++ rnN 33 35) rfl SubE.a (SubH.cons rfl rfl (ObLe.blk (SLes.cons SLe.a (SLes.cons SLe.a (SLes.cons (SLe.row rfl h3.symm) (SLes.cons (SLe.row rfl h4.symm) SLes.nil))))) (SubH.cons rfl rfl (ObLe.row rfl) (SubH.cons rfl rfl (ObLe.nest List.take_length) (SubH.cons rfl rfl (ObLe.nest (List.take_of_length_le (by omega))) (SubH.cons rfl rfl (ObLe.nest (List.take_of_length_le (by omega))) SubH.nil)))))) ?_
    refine WP.ret ?_
    exact RetOkE.sv1 Try.results62 (ResSv.cell rfl rfl rfl rfl) HSb.a Kept.a
end Go.Proofs.Ytjgmbgfcffnanac
