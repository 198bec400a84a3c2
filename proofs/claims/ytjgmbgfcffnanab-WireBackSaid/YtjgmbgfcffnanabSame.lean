/- Equality of structs; SameTxns. -/
import Derived.Test.YtjgmbgfcffnanabSl
namespace Go.Proofs.Ytjgmbgfcffnanab
open Go.RowKit

def gVals (g : Guard) : List Value := [.int .i64 g.kind, .int .i64 g.a.kind, .int .i64 g.a.n, .int .i64 g.b.kind, .int .i64 g.b.n]
def sVals (s : SetT) : List Value := [.int .i64 s.key, .int .i64 s.op, .int .i64 s.a.kind, .int .i64 s.a.n, .int .i64 s.b.kind, .int .i64 s.b.n]

theorem eqIn_operand (d : Nat) (a b a' b' : Int) (w : World) : (Op.equalIn (d + 2) 57 (.agg #[.int .i64 a, .int .i64 b]) (.agg #[.int .i64 a', .int .i64 b'])).run Try.prog w = .ok (decide (a = a' ∧ b = b')) w := by
  rw [run_equalIn_struct w (d + 1) _ _ _ (by simp only [Program.fieldsOf, Try.underlying57]) (by kernel_rfl)]
  simp [Program.fieldsOf, Try.underlying57, Op.eqFields, go_sem]
  by_cases h1 : a = a' <;> by_cases h2 : b = b' <;> simp [h1, h2]
theorem eq_guard (x y : Go.Operand) (g g' : Guard) (w : World) : (do eqGuard .neq 96 x y (.agg (gVals g).toArray) (.agg (gVals g').toArray); binOp .neq 96 (.agg (gVals g).toArray) (.agg (gVals g').toArray) : Sem Value).run Try.prog w = .ok (.bool (!decide (g = g'))) w := by
  obtain ⟨k, ⟨a, b⟩, ⟨c, d⟩⟩ := g
  obtain ⟨k', ⟨a', b'⟩, ⟨c', d'⟩⟩ := g'
  have ho := eqIn_operand 9997
  simp only [Sem.run_bind, run_eqGuard_agg _ _ _ _ _ _ _ (show Try.prog.eqGuardType Try.prog.depth 96 = false by kernel_rfl), Result.andThen_ok, run_neq_struct]
  rw [run_equalIn_struct w 9999 _ _ _ (by simp only [Program.fieldsOf, Try.underlying96]) (by kernel_rfl)]
  simp [Program.fieldsOf, Try.underlying96, Try.underlying57, Op.eqFields, go_sem, gVals, ho]
  by_cases h1 : k = k' <;> by_cases h2 : a = a' <;> by_cases h3 : b = b' <;> by_cases h4 : c = c' <;> by_cases h5 : d = d' <;> simp [h1, h2, h3, h4, h5]
theorem eq_set (x y : Go.Operand) (g g' : SetT) (w : World) : (do eqGuard .neq 59 x y (.agg (sVals g).toArray) (.agg (sVals g').toArray); binOp .neq 59 (.agg (sVals g).toArray) (.agg (sVals g').toArray) : Sem Value).run Try.prog w = .ok (.bool (!decide (g = g'))) w := by
  obtain ⟨k, o, ⟨a, b⟩, ⟨c, d⟩⟩ := g
  obtain ⟨k', o', ⟨a', b'⟩, ⟨c', d'⟩⟩ := g'
  have ho := eqIn_operand 9997
  simp only [Sem.run_bind, run_eqGuard_agg _ _ _ _ _ _ _ (show Try.prog.eqGuardType Try.prog.depth 59 = false by kernel_rfl), Result.andThen_ok, run_neq_struct]
  rw [run_equalIn_struct w 9999 _ _ _ (by simp only [Program.fieldsOf, Try.underlying59]) (by kernel_rfl)]
  simp [Program.fieldsOf, Try.underlying59, Try.underlying57, Op.eqFields, go_sem, sVals, ho]
  by_cases h0 : o = o' <;> by_cases h1 : k = k' <;> by_cases h2 : a = a' <;> by_cases h3 : b = b' <;> by_cases h4 : c = c' <;> by_cases h5 : d = d' <;> simp [h0, h1, h2, h3, h4, h5]
theorem take_eq_next {α : Type} {xs ys : List α} {k : Nat} {x y : α} (h : xs.take k = ys.take k) (hx : xs[k]? = some x) (hy : ys[k]? = some y) (he : x = y) : xs.take (k + 1) = ys.take (k + 1) := by
  rw [List.take_add_one, List.take_add_one, h, hx, hy, he]
theorem ne_at {α : Type} {xs ys : List α} {k : Nat} {x y : α} (hx : xs[k]? = some x) (hy : ys[k]? = some y) (he : x ≠ y) : xs ≠ ys := fun e => by
  subst e; rw [hx] at hy; injection hy with hy; exact he hy
theorem take_eq_all {α : Type} {xs ys : List α} {k : Nat} (h : xs.take k = ys.take k) (hk : xs.length ≤ k) (hl : xs.length = ys.length) : xs = ys := by
  rwa [List.take_of_length_le hk, List.take_of_length_le (by omega)] at h

set_option maxRecDepth 100000 in
theorem SameTxns_fn (xs ys : List Txn) : Fn (Cfg.mk Try.prog (ttAt ttl) ttl_ok.ok mixd) 20 [txsV xs, txsV ys] (IV.bool (decide (xs = ys))) := by
  refine Fn.of_wp _ Try.func20 rfl (by kernel_rfl) Try.ntmps20 rfl ?_
  intro F hD hG
  refine WP.len 0 rfl (fun hl1 => ?_)
  refine WP.len 1 rfl (fun hl2 => ?_)
  ((repeat apply WP.seq); apply WP.lreg; refine nA rfl rfl ?_; refine ALK.nil ?_; try show WP _ _ _ _ _ _)
  ((repeat apply WP.seq); apply WP.lreg; refine nM rfl rfl ?_; refine ALK.n OpN.ln rfl ?_; refine nM rfl rfl ?_; refine ALK.n OpN.ln rfl ?_; refine ALK.n OpN.cm rfl ?_; refine ALK.nil ?_; try show WP _ _ _ _ _ _)
  ((repeat apply WP.seq); refine WP.cond rfl (fun h => ?_) (fun h => ?_))
  · ((repeat apply WP.seq); apply WP.lreg; refine nA rfl rfl ?_; refine ALK.nil ?_; try show WP _ _ _ _ _ _)
    have hr : decide (xs = ys) = false := by
      simp only [bne_iff_ne, ne_eq] at h
      exact decide_eq_false fun e => h (by rw [e])
    ((repeat apply WP.seq); refine WP.ret ?_; first | exact RetOk.one Try.results20 ResV.a | exact RetOk.tup Try.results20 rfl ResVs.a)
  (refine WP.skip ?_; show WP _ _ _ _ _ _)
  have hlen : xs.length = ys.length := by simp at h; omega
  ((repeat apply WP.seq); apply WP.lreg; refine nA rfl rfl ?_; refine ALK.nil ?_; try show WP _ _ _ _ _ _)
  ((repeat apply WP.seq); apply WP.block)
  refine WP.loop (fun k : Nat => ⟨[(5, .im (IV.int k)), (0, .im (txsV xs)), (1, .im (txsV ys))], [], 0⟩) (fun k => k ≤ xs.length ∧ xs.take k = ys.take k) (fun k => xs.length - k) 0 ⟨Nat.zero_le _, rfl⟩ (Shift.sub [] rfl SubE.a SubH.nil) ?_
  rintro k ⟨hk, he⟩
  ((repeat apply WP.seq); apply WP.lreg; refine nM rfl rfl ?_; refine nM rfl rfl ?_; refine ALK.n OpN.ln rfl ?_; refine ALK.n OpN.cm rfl ?_; refine ALK.nil ?_; try show WP _ _ _ _ _ _)
  ((repeat apply WP.seq); refine WP.cond rfl (fun h => ?_) (fun h => ?_))
  · (refine WP.skip ?_; show WP _ _ _ _ _ _)
    have hlt : k < xs.length := by simpa using h
    obtain ⟨x, hx⟩ := get_at hlt
    obtain ⟨y, hy⟩ := get_at (xs := ys) (k := k) (by omega)
    ((repeat apply WP.seq); apply WP.block)
    ((repeat apply WP.seq); apply WP.ldraw; refine nM rfl rfl ?_; refine nM rfl rfl ?_; refine ALK.n OpN.ix rfl ?_; (first | refine ALK.n (opn_load rfl (eB rfl) rfl) rfl ?_ | refine ALK.r OpR.ld rfl ?_); refine nM rfl rfl ?_; refine nM rfl rfl ?_; refine ALK.n OpN.ix rfl ?_; (first | refine ALK.n (opn_load rfl (eB rfl) rfl) rfl ?_ | refine ALK.r OpR.ld rfl ?_); refine ALK.a (opa_alloc rfl rfl) rfl ?_; refine ALK.a (opa_alloc rfl rfl) rfl ?_; (first | refine ALK.e (ope_store rfl (eB rfl) (eB rfl) Cs.a rfl rfl rfl) rfl rfl ?_ | refine ALK.e (ope_storeRow rfl rfl (eB rfl) (eB rfl) (oc_val rfl) rfl rfl (by assumption)) rfl rfl ?_); (first | refine ALK.e (ope_store rfl (eB rfl) (eB rfl) Cs.a rfl rfl rfl) rfl rfl ?_ | refine ALK.e (ope_storeRow rfl rfl (eB rfl) (eB rfl) (oc_val rfl) rfl rfl (by assumption)) rfl rfl ?_); refine ALK.nilD (by kernel_rfl) ?_; try show WP _ _ _ _ _ _)
    refine WP.shift (Shift.frzBlk 6 rfl rfl rfl) ?_
    refine WP.shift (Shift.frzBlk 7 rfl rfl rfl) ?_
    ((repeat apply WP.seq); apply WP.lreg; (first | refine ALK.n (opn_field (o := 0) rfl (eB rfl)) rfl ?_ | refine ALK.n (opn_fieldOff (o := 0) rfl (eB rfl)) rfl ?_); (first | refine ALK.n (opn_load rfl (eB rfl) rfl) rfl ?_ | refine ALK.r OpR.ld rfl ?_); (first | refine ALK.n (opn_field (o := 0) rfl (eB rfl)) rfl ?_ | refine ALK.n (opn_fieldOff (o := 0) rfl (eB rfl)) rfl ?_); (first | refine ALK.n (opn_load rfl (eB rfl) rfl) rfl ?_ | refine ALK.r OpR.ld rfl ?_); refine ALK.n (opn_call (SameInts_fn _ _) (Evs.cons Ev.a (Evs.cons Ev.a Evs.nil))) rfl ?_; refine ALK.n (opn_not (eB rfl)) rfl ?_; refine nM rfl rfl ?_; (first | refine ALK.g (fun hb => opn_field (o := 1) rfl (eB rfl)) rfl rfl rfl ?_ | refine ALK.g (fun hb => opn_fieldOff (o := 1) rfl (eB rfl)) rfl rfl rfl ?_); (first | refine ALK.g (fun hb => opn_load rfl (eC rfl hb) rfl) rfl rfl rfl ?_ | refine ALK.rg (fun hb => opr_load rfl (eC rfl hb) rfl rfl) rfl rfl rfl ?_ | refine ALK.rg (fun hb => opr_loadRow rfl rfl (eC rfl hb) rfl (by assumption) rfl) rfl rfl rfl ?_ | refine ALK.rg (fun hb => opr_loadK0 rfl (eC rfl hb) rfl (by assumption) rfl) rfl rfl rfl ?_ | refine ALK.rg (fun hb => opr_loadK rfl (eC rfl hb) rfl (by assumption) rfl) rfl rfl rfl ?_); (first | refine ALK.g (fun hb => opn_len rfl (eC rfl hb)) rfl rfl rfl ?_ | refine ALK.g (fun hb => opn_lenRow rfl (eC rfl hb)) rfl rfl rfl ?_ | refine ALK.g (fun hb => opn_lenNil rfl (eC rfl hb)) rfl rfl rfl ?_); (first | refine ALK.g (fun hb => opn_field (o := 1) rfl (eB rfl)) rfl rfl rfl ?_ | refine ALK.g (fun hb => opn_fieldOff (o := 1) rfl (eB rfl)) rfl rfl rfl ?_); (first | refine ALK.g (fun hb => opn_load rfl (eC rfl hb) rfl) rfl rfl rfl ?_ | refine ALK.rg (fun hb => opr_load rfl (eC rfl hb) rfl rfl) rfl rfl rfl ?_ | refine ALK.rg (fun hb => opr_loadRow rfl rfl (eC rfl hb) rfl (by assumption) rfl) rfl rfl rfl ?_ | refine ALK.rg (fun hb => opr_loadK0 rfl (eC rfl hb) rfl (by assumption) rfl) rfl rfl rfl ?_ | refine ALK.rg (fun hb => opr_loadK rfl (eC rfl hb) rfl (by assumption) rfl) rfl rfl rfl ?_); (first | refine ALK.g (fun hb => opn_len rfl (eC rfl hb)) rfl rfl rfl ?_ | refine ALK.g (fun hb => opn_lenRow rfl (eC rfl hb)) rfl rfl rfl ?_ | refine ALK.g (fun hb => opn_lenNil rfl (eC rfl hb)) rfl rfl rfl ?_); (first | refine ALK.g (fun hb => opn_cmp (eC rfl hb) (eC rfl hb) rfl) rfl rfl rfl ?_ | refine ALK.g (fun hb => opn_cmpB rfl (eC rfl hb) (eC rfl hb) rfl) rfl rfl rfl ?_); refine ALK.n (opn_pick_or (eB rfl) rfl rfl (fun hb2 => by first | (rw [hb2]; rfl) | (rw [hb, hb2]; rfl) | simp_all [gd])) rfl ?_; refine nM rfl rfl ?_; (first | refine ALK.g (fun hb => opn_field (o := 2) rfl (eB rfl)) rfl rfl rfl ?_ | refine ALK.g (fun hb => opn_fieldOff (o := 2) rfl (eB rfl)) rfl rfl rfl ?_); (first | refine ALK.g (fun hb => opn_load rfl (eC rfl hb) rfl) rfl rfl rfl ?_ | refine ALK.rg (fun hb => opr_load rfl (eC rfl hb) rfl rfl) rfl rfl rfl ?_ | refine ALK.rg (fun hb => opr_loadRow rfl rfl (eC rfl hb) rfl (by assumption) rfl) rfl rfl rfl ?_ | refine ALK.rg (fun hb => opr_loadK0 rfl (eC rfl hb) rfl (by assumption) rfl) rfl rfl rfl ?_ | refine ALK.rg (fun hb => opr_loadK rfl (eC rfl hb) rfl (by assumption) rfl) rfl rfl rfl ?_); (first | refine ALK.g (fun hb => opn_len rfl (eC rfl hb)) rfl rfl rfl ?_ | refine ALK.g (fun hb => opn_lenRow rfl (eC rfl hb)) rfl rfl rfl ?_ | refine ALK.g (fun hb => opn_lenNil rfl (eC rfl hb)) rfl rfl rfl ?_); (first | refine ALK.g (fun hb => opn_field (o := 2) rfl (eB rfl)) rfl rfl rfl ?_ | refine ALK.g (fun hb => opn_fieldOff (o := 2) rfl (eB rfl)) rfl rfl rfl ?_); (first | refine ALK.g (fun hb => opn_load rfl (eC rfl hb) rfl) rfl rfl rfl ?_ | refine ALK.rg (fun hb => opr_load rfl (eC rfl hb) rfl rfl) rfl rfl rfl ?_ | refine ALK.rg (fun hb => opr_loadRow rfl rfl (eC rfl hb) rfl (by assumption) rfl) rfl rfl rfl ?_ | refine ALK.rg (fun hb => opr_loadK0 rfl (eC rfl hb) rfl (by assumption) rfl) rfl rfl rfl ?_ | refine ALK.rg (fun hb => opr_loadK rfl (eC rfl hb) rfl (by assumption) rfl) rfl rfl rfl ?_); (first | refine ALK.g (fun hb => opn_len rfl (eC rfl hb)) rfl rfl rfl ?_ | refine ALK.g (fun hb => opn_lenRow rfl (eC rfl hb)) rfl rfl rfl ?_ | refine ALK.g (fun hb => opn_lenNil rfl (eC rfl hb)) rfl rfl rfl ?_); (first | refine ALK.g (fun hb => opn_cmp (eC rfl hb) (eC rfl hb) rfl) rfl rfl rfl ?_ | refine ALK.g (fun hb => opn_cmpB rfl (eC rfl hb) (eC rfl hb) rfl) rfl rfl rfl ?_); refine ALK.n (opn_pick_or (eB rfl) rfl rfl (fun hb2 => by first | (rw [hb2]; rfl) | (rw [hb, hb2]; rfl) | simp_all [gd])) rfl ?_; refine ALK.nil ?_; try show WP _ _ _ _ _ _)
    ((repeat apply WP.seq); refine WP.cond rfl (fun h => ?_) (fun h => ?_))
    · ((repeat apply WP.seq); apply WP.lreg; refine nA rfl rfl ?_; refine ALK.nil ?_; try show WP _ _ _ _ _ _)
      have hr : decide (xs = ys) = false := decide_eq_false (ne_at hx hy fun e => by subst e; simp at h)
      ((repeat apply WP.seq); refine WP.ret ?_; first | exact RetOk.one Try.results20 ResV.a | exact RetOk.tup Try.results20 rfl ResVs.a)
    (refine WP.skip ?_; show WP _ _ _ _ _ _)
    have h1 : x.reads = y.reads ∧ x.guards.length = y.guards.length ∧ x.sets.length = y.sets.length := by simp at h; exact ⟨h.1.1, by omega, by omega⟩
    have h2 := h1.2.1
    have h3 := h1.2.2
    ((repeat apply WP.seq); apply WP.lreg; refine nA rfl rfl ?_; refine ALK.nil ?_; try show WP _ _ _ _ _ _)
    ((repeat apply WP.seq); apply WP.block)
    refine WP.loop (fun j : Nat => ⟨[(8, .im (IV.int j)), (6, .im (IV.ptr (cT x))), (7, .im (IV.ptr (cT y))), (5, .im (IV.int k)), (0, .im (txsV xs)), (1, .im (txsV ys))], [], 0⟩) (fun j => j ≤ x.guards.length ∧ x.guards.take j = y.guards.take j) (fun j => x.guards.length - j) 0 ⟨Nat.zero_le _, rfl⟩ (Shift.sub [] rfl SubE.a SubH.nil) ?_
    rintro j ⟨hj, hje⟩
    ((repeat apply WP.seq); apply WP.lreg; refine nM rfl rfl ?_; (first | refine ALK.n (opn_field (o := 1) rfl (eB rfl)) rfl ?_ | refine ALK.n (opn_fieldOff (o := 1) rfl (eB rfl)) rfl ?_); (first | refine ALK.n (opn_load rfl (eB rfl) rfl) rfl ?_ | refine ALK.r OpR.ld rfl ?_); refine ALK.n OpN.ln rfl ?_; refine ALK.n OpN.cm rfl ?_; refine ALK.nil ?_; try show WP _ _ _ _ _ _)
    refine WP.len 55 rfl (fun hl3 => ?_)
    ((repeat apply WP.seq); refine WP.cond rfl (fun h => ?_) (fun h => ?_))
    · (refine WP.skip ?_; show WP _ _ _ _ _ _)
      have hjlt : j < x.guards.length := by simpa using h
      obtain ⟨g, hg⟩ := get_at hjlt
      obtain ⟨g', hg'⟩ := get_at (xs := y.guards) (k := j) (by omega)
      ((repeat apply WP.seq); apply WP.block)
      ((repeat apply WP.seq); apply WP.ldraw; (first | refine ALK.n (opn_field (o := 1) rfl (eB rfl)) rfl ?_ | refine ALK.n (opn_fieldOff (o := 1) rfl (eB rfl)) rfl ?_); (first | refine ALK.n (opn_load rfl (eB rfl) rfl) rfl ?_ | refine ALK.r OpR.ld rfl ?_); refine nM rfl rfl ?_; refine ALK.n OpN.ix rfl ?_; (first | refine ALK.n (opn_load rfl (eB rfl) rfl) rfl ?_ | refine ALK.r OpR.ld rfl ?_); (first | refine ALK.n (opn_field (o := 1) rfl (eB rfl)) rfl ?_ | refine ALK.n (opn_fieldOff (o := 1) rfl (eB rfl)) rfl ?_); (first | refine ALK.n (opn_load rfl (eB rfl) rfl) rfl ?_ | refine ALK.r OpR.ld rfl ?_); refine nM rfl rfl ?_; refine ALK.n OpN.ix rfl ?_; (first | refine ALK.n (opn_load rfl (eB rfl) rfl) rfl ?_ | refine ALK.r OpR.ld rfl ?_); refine ALK.n (opn_eqS (us := gVals g) (vs := gVals g') (by first | exact Ev.base rfl | exact Ev.cnd rfl (by assumption) | exact Ev.of (eB rfl) (ImOf.agg rfl ILes.refl) | exact Ev.of (Ev.cnd rfl (by assumption)) (ImOf.agg rfl ILes.refl) | exact Ev.of (eB rfl) (ImOf.im (ILe.nil rfl))) (by first | exact Ev.base rfl | exact Ev.cnd rfl (by assumption) | exact Ev.of (eB rfl) (ImOf.agg rfl ILes.refl) | exact Ev.of (Ev.cnd rfl (by assumption)) (ImOf.agg rfl ILes.refl) | exact Ev.of (eB rfl) (ImOf.im (ILe.nil rfl))) (eq_guard _ _ g g')) rfl ?_; refine ALK.nilD (by kernel_rfl) ?_; try show WP _ _ _ _ _ _)
      ((repeat apply WP.seq); refine WP.cond rfl (fun h => ?_) (fun h => ?_))
      · ((repeat apply WP.seq); apply WP.lreg; refine nA rfl rfl ?_; refine ALK.nil ?_; try show WP _ _ _ _ _ _)
        have hr : decide (xs = ys) = false := decide_eq_false (ne_at hx hy fun e => ne_at hg hg' (by simpa using h) (by rw [e]))
        ((repeat apply WP.seq); refine WP.ret ?_; first | exact RetOk.one Try.results20 ResV.a | exact RetOk.tup Try.results20 rfl ResVs.a)
      (refine WP.skip ?_; show WP _ _ _ _ _ _)
      ((repeat apply WP.seq); apply WP.lreg; refine nM rfl rfl ?_; refine ALK.n OpN.ar rfl ?_; refine nA rfl rfl ?_; refine ALK.nil ?_; try show WP _ _ _ _ _ _)
      show ∃ _, _ ∧ _ ∧ _
      exact ⟨j + 1, ⟨by omega, take_eq_next hje hg hg' (by simpa using h)⟩, by omega, (Shift.sub [] rfl SubE.a SubH.nil)⟩
    · ((repeat apply WP.seq); refine WP.exit ?_; show WP _ _ _ _ _ _)
      have hg1 : x.guards = y.guards := take_eq_all hje (by simp at h; omega) h2
      ((repeat apply WP.seq); apply WP.lreg; refine nA rfl rfl ?_; refine ALK.nil ?_; try show WP _ _ _ _ _ _)
      ((repeat apply WP.seq); apply WP.block)
      refine WP.loop (fun j : Nat => ⟨[(9, .im (IV.int j)), (6, .im (IV.ptr (cT x))), (7, .im (IV.ptr (cT y))), (5, .im (IV.int k)), (0, .im (txsV xs)), (1, .im (txsV ys))], [], 0⟩) (fun j => j ≤ x.sets.length ∧ x.sets.take j = y.sets.take j) (fun j => x.sets.length - j) 0 ⟨Nat.zero_le _, rfl⟩ (Shift.sub [] rfl SubE.a SubH.nil) ?_
      rintro j ⟨hj, hje⟩
      ((repeat apply WP.seq); apply WP.lreg; refine nM rfl rfl ?_; (first | refine ALK.n (opn_field (o := 2) rfl (eB rfl)) rfl ?_ | refine ALK.n (opn_fieldOff (o := 2) rfl (eB rfl)) rfl ?_); (first | refine ALK.n (opn_load rfl (eB rfl) rfl) rfl ?_ | refine ALK.r OpR.ld rfl ?_); refine ALK.n OpN.ln rfl ?_; refine ALK.n OpN.cm rfl ?_; refine ALK.nil ?_; try show WP _ _ _ _ _ _)
      refine WP.len 73 rfl (fun hl4 => ?_)
      ((repeat apply WP.seq); refine WP.cond rfl (fun h => ?_) (fun h => ?_))
      · (refine WP.skip ?_; show WP _ _ _ _ _ _)
        have hjlt : j < x.sets.length := by simpa using h
        obtain ⟨g, hg⟩ := get_at hjlt
        obtain ⟨g', hg'⟩ := get_at (xs := y.sets) (k := j) (by omega)
        ((repeat apply WP.seq); apply WP.block)
        ((repeat apply WP.seq); apply WP.ldraw; (first | refine ALK.n (opn_field (o := 2) rfl (eB rfl)) rfl ?_ | refine ALK.n (opn_fieldOff (o := 2) rfl (eB rfl)) rfl ?_); (first | refine ALK.n (opn_load rfl (eB rfl) rfl) rfl ?_ | refine ALK.r OpR.ld rfl ?_); refine nM rfl rfl ?_; refine ALK.n OpN.ix rfl ?_; (first | refine ALK.n (opn_load rfl (eB rfl) rfl) rfl ?_ | refine ALK.r OpR.ld rfl ?_); (first | refine ALK.n (opn_field (o := 2) rfl (eB rfl)) rfl ?_ | refine ALK.n (opn_fieldOff (o := 2) rfl (eB rfl)) rfl ?_); (first | refine ALK.n (opn_load rfl (eB rfl) rfl) rfl ?_ | refine ALK.r OpR.ld rfl ?_); refine nM rfl rfl ?_; refine ALK.n OpN.ix rfl ?_; (first | refine ALK.n (opn_load rfl (eB rfl) rfl) rfl ?_ | refine ALK.r OpR.ld rfl ?_); refine ALK.n (opn_eqS (us := sVals g) (vs := sVals g') (by first | exact Ev.base rfl | exact Ev.cnd rfl (by assumption) | exact Ev.of (eB rfl) (ImOf.agg rfl ILes.refl) | exact Ev.of (Ev.cnd rfl (by assumption)) (ImOf.agg rfl ILes.refl) | exact Ev.of (eB rfl) (ImOf.im (ILe.nil rfl))) (by first | exact Ev.base rfl | exact Ev.cnd rfl (by assumption) | exact Ev.of (eB rfl) (ImOf.agg rfl ILes.refl) | exact Ev.of (Ev.cnd rfl (by assumption)) (ImOf.agg rfl ILes.refl) | exact Ev.of (eB rfl) (ImOf.im (ILe.nil rfl))) (eq_set _ _ g g')) rfl ?_; refine ALK.nilD (by kernel_rfl) ?_; try show WP _ _ _ _ _ _)
        ((repeat apply WP.seq); refine WP.cond rfl (fun h => ?_) (fun h => ?_))
        · ((repeat apply WP.seq); apply WP.lreg; refine nA rfl rfl ?_; refine ALK.nil ?_; try show WP _ _ _ _ _ _)
          have hr : decide (xs = ys) = false := decide_eq_false (ne_at hx hy fun e => ne_at hg hg' (by simpa using h) (by rw [e]))
          ((repeat apply WP.seq); refine WP.ret ?_; first | exact RetOk.one Try.results20 ResV.a | exact RetOk.tup Try.results20 rfl ResVs.a)
        (refine WP.skip ?_; show WP _ _ _ _ _ _)
        ((repeat apply WP.seq); apply WP.lreg; refine nM rfl rfl ?_; refine ALK.n OpN.ar rfl ?_; refine nA rfl rfl ?_; refine ALK.nil ?_; try show WP _ _ _ _ _ _)
        show ∃ _, _ ∧ _ ∧ _
        exact ⟨j + 1, ⟨by omega, take_eq_next hje hg hg' (by simpa using h)⟩, by omega, (Shift.sub [] rfl SubE.a SubH.nil)⟩
      · ((repeat apply WP.seq); refine WP.exit ?_; show WP _ _ _ _ _ _)
        have hg2 : x.sets = y.sets := take_eq_all hje (by simp at h; omega) h3
        have hxy : x = y := by obtain ⟨r, g, t⟩ := x; obtain ⟨r', g', t'⟩ := y; simp at h1 hg1 hg2; rw [h1.1, hg1, hg2]
        ((repeat apply WP.seq); apply WP.lreg; refine nM rfl rfl ?_; refine ALK.n OpN.ar rfl ?_; refine nA rfl rfl ?_; refine ALK.nil ?_; try show WP _ _ _ _ _ _)
        show ∃ _, _ ∧ _ ∧ _
        exact ⟨k + 1, ⟨by omega, take_eq_next he hx hy hxy⟩, by omega, (Shift.sub [] rfl SubE.a SubH.nil)⟩
  · ((repeat apply WP.seq); refine WP.exit ?_; show WP _ _ _ _ _ _)
    ((repeat apply WP.seq); apply WP.lreg; refine nA rfl rfl ?_; refine ALK.nil ?_; try show WP _ _ _ _ _ _)
    have hr : decide (xs = ys) = true := decide_eq_true (take_eq_all he (by simp at h; omega) hlen)
    ((repeat apply WP.seq); refine WP.ret ?_; first | exact RetOk.one Try.results20 ResV.a | exact RetOk.tup Try.results20 rfl ResVs.a)

end Go.Proofs.Ytjgmbgfcffnanab
