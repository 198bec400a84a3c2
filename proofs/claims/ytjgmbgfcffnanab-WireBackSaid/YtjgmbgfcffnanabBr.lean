/- The contracts that were proved by the elder walks, in the logic's form. -/
import Derived.Test.YtjgmbgfcffnanabTy
import Derived.Test.YtjgmbgfcffnanabLB
import Derived.Test.YtjgmbgfcffnanabEC
namespace Go.Proofs.Ytjgmbgfcffnanab
open Go.RowKit

def cI (x : Int) : List IV := [IV.int x]
def cG (g : Guard) : List IV := [IV.int g.kind, IV.int g.a.kind, IV.int g.a.n, IV.int g.b.kind, IV.int g.b.n]
def cS (s : SetT) : List IV := [IV.int s.key, IV.int s.op, IV.int s.a.kind, IV.int s.a.n, IV.int s.b.kind, IV.int s.b.n]
def cT (t : Txn) : List IV := [IV.view 1 cI t.reads, IV.view 5 cG t.guards, IV.view 6 cS t.sets]
abbrev txnV (t : Txn) : IV := IV.agg (cT t)
abbrev intsV (xs : List Int) : IV := IV.view 1 cI xs
def cR (r : Res) : List IV := [IV.bool r.done, intsV r.vals]
abbrev resV (r : Res) : IV := IV.agg (cR r)
def TxnB (t : Txn) : Prop := t.sets.length * 48 ≤ 140737488351232

theorem IVs_vals {μ : Mem} : ∀ {us vs : List Value}, IVs μ (us.map IV.val) vs → vs = us
  | [], _, h => h
  | u :: us, _, ⟨v, vs', e, h1, h2⟩ => by subst e; rw [show v = u from h1, IVs_vals h2]
theorem view_rd {α : Type} {μ : Mem} {w : World} (ha : Agr μ w) {k : Nat} {enc : α → List IV} {enc' : α → List Value} (he : ∀ x, enc x = (enc' x).map IV.val) (hne : ∀ x, enc' x ≠ []) {xs : List α} {v : Value} (h : (IV.view k enc xs).p μ v) :
    ∃ A c, v = .slice A xs.length c ∧ xs.length ≤ c ∧ c ≤ maxLen ∧ Rd k enc' w A xs.length xs := by
  obtain ⟨A, c, e, h1, h2, h3⟩ := h
  refine ⟨A, c, e, h1, h2, rfl, ?_⟩
  rcases h3 with h3 | ⟨b, o, hA, h3⟩
  · exact .inl h3
  · by_cases h0 : xs = []
    · exact .inl h0
    · have key : ∀ i x, xs[i]? = some x → ∀ j u, (enc' x)[j]? = some u → w.cell? ⟨b, o + i * k + j, none⟩ = some u := fun i x hx j u hu => by
        obtain ⟨cs, v', k1, k2, k3, _⟩ := h3 i x hx j (IV.val u) (by rw [he, List.getElem?_map, hu]; rfl)
        obtain ⟨t, fz, hh⟩ := ha b cs k1
        simp only [World.cell?, hh]
        rw [k2]; exact congrArg some k3
      refine .inr ⟨b, o, hA, ?_, key⟩
      obtain ⟨x, xs', rfl⟩ := List.exists_cons_of_ne_nil h0
      obtain ⟨u, us, hu⟩ := List.exists_cons_of_ne_nil (hne x)
      exact World.block_lt_of_cell? w _ (key 0 x rfl 0 u (by rw [hu]; rfl))
theorem own_freeze {α : Type} {E k B : Nat} {μ : Mem} {w : World} (ha : Agr μ w) {enc : α → List IV} {enc' : α → List Value} (he : ∀ x, enc x = (enc' x).map IV.val) (hk : ∀ x, (enc' x).length = k) (h1 : ∀ x, One (enc' x)) {v : Value} {xs : List α} (h : Own E k enc' w B v xs) :
    ∃ μ', Mem.le μ μ' ∧ (∀ b, μ' b ≠ none → μ b ≠ none ∨ B ≤ b) ∧ Agr μ' w ∧ (IV.view k enc xs).p μ' v := by
  rcases h.2 with ⟨rfl, hn⟩ | ⟨g, cap, cur, rfl, hg, hh, hnc, hcm, hcs, htake⟩
  · have : xs = [] := List.eq_nil_of_length_eq_zero hn
    subst this
    exact ⟨μ, Mem.le.refl _, fun b hb => .inl hb, ha, none, 0, rfl, Nat.le_refl _, by simp [maxLen], .inl rfl⟩
  · have hle : Mem.le μ (μ.add g cur) := fun b c hb => by
      unfold Mem.add
      by_cases e : b = g
      · subst e
        obtain ⟨t, fz, hh2⟩ := ha b c hb
        rw [hh] at hh2
        injection hh2 with hh2
        injection hh2 with hh2
        rw [if_pos rfl, hh2]
      · rw [if_neg e]; exact hb
    refine ⟨μ.add g cur, hle, fun b hb => ?_, fun b c hb => ?_, _, cap, rfl, hnc, hcm, .inr ⟨g, 0, rfl, fun i x hx j s hj => ?_⟩⟩
    · unfold Mem.add at hb
      by_cases e : b = g
      · exact .inr (e ▸ hg)
      · rw [if_neg e] at hb; exact .inl hb
    · unfold Mem.add at hb
      by_cases e : b = g
      · rw [if_pos e] at hb; injection hb with hb; subst hb; subst e; exact ⟨_, _, hh⟩
      · rw [if_neg e] at hb; exact ha b c hb
    · rw [he, List.getElem?_map, Option.map_eq_some_iff] at hj
      obtain ⟨u, hu, rfl⟩ := hj
      have h2 := flat_at hk xs i x hx j u hu
      refine ⟨cur, u, by unfold Mem.add; rw [if_pos rfl], ?_, rfl, h1 x u (List.mem_of_getElem? hu)⟩
      rw [← htake, List.getElem?_take] at h2
      split at h2
      · rw [Nat.zero_add]; simpa using h2
      · cases h2
theorem Stp.of_below {μ : Mem} {w w' : World} (ha : Agr μ w) (hb : Below w.heap.size w w') : Stp μ w μ w' :=
  ⟨hb, Mem.le.refl _, fun _ h => .inl h, fun b cs h => by obtain ⟨t, fz, hh⟩ := ha b cs h; exact ⟨t, fz, (hb.block b (Array.getElem?_eq_some_iff.1 hh).1).trans hh⟩⟩
theorem stp_more {μ μ' : Mem} {w w' : World} (h : Stp μ w μ w') (hle : Mem.le μ μ') (hn : ∀ b, μ' b ≠ none → μ b ≠ none ∨ w.heap.size ≤ b) (ha : Agr μ' w') : Stp μ w μ' w' := ⟨h.below, hle, hn, ha⟩
/- a call that hands back a plain value -/
theorem Fn.plain {C : Cfg} {f : FuncId} {fn : Func} {args : List IV} {u : Value} (hf : C.P.funcs[f]? = some fn) (hb : fn.body.isNone = false) (hn : (fn.name == "runtime.NumGoroutine") = false)
    (h : ∀ μ w vs, IVs μ args vs → Agr μ w → Calls C.P f vs.toArray w fun e w' => e = .returned u ∧ Below w.heap.size w w') : Fn C f args (IV.val u) :=
  ⟨⟨fn, hf, hb, hn⟩, fun μ w vs hv ha => (h μ w vs hv ha).mono fun e w' ⟨he, hb⟩ => ⟨u, μ, he, rfl, Stp.of_below ha hb⟩⟩
theorem IV.tup_val (us : List Value) (μ : Mem) : (IV.tup (us.map IV.val)).p μ (.tuple us.toArray) := ⟨us, rfl, by
  induction us with
  | nil => rfl
  | cons u us ih => exact ⟨u, us, rfl, rfl, ih⟩⟩
theorem Fn.tups {C : Cfg} {f : FuncId} {fn : Func} {args : List IV} (us : List Value) (hf : C.P.funcs[f]? = some fn) (hb : fn.body.isNone = false) (hn : (fn.name == "runtime.NumGoroutine") = false)
    (h : ∀ μ w vs, IVs μ args vs → Agr μ w → Calls C.P f vs.toArray w fun e w' => e = .returned (.tuple us.toArray) ∧ Below w.heap.size w w') : Fn C f args (IV.tup (us.map IV.val)) :=
  ⟨⟨fn, hf, hb, hn⟩, fun μ w vs hv ha => (h μ w vs hv ha).mono fun e w' ⟨he, hb⟩ => ⟨_, μ, he, IV.tup_val us μ, Stp.of_below ha hb⟩⟩
theorem same_below {w w' : World} (h : w = w') : Below w.heap.size w w' := h ▸ Below.refl _ _
theorem agg2_vals {μ : Mem} {a b : Value} {v : Value} (h : (IV.agg [IV.val a, IV.val b]).p μ v) : v = .agg #[a, b] := by
  obtain ⟨vs, rfl, h, _⟩ := h
  rw [IVs_vals (us := [a, b]) h]

theorem cI_val (x : Int) : cI x = (encI x).map IV.val := rfl
theorem cG_val (x : Guard) : cG x = (encG x).map IV.val := rfl
theorem cS_val (x : SetT) : cS x = (encS x).map IV.val := rfl

theorem vals_Check_fn (k n r : Int) : Fn (Cfg.mk Try.prog (ttAt ttl) ttl_ok.ok mixd) 112 [IV.agg [IV.int k, IV.int n], IV.int r] (IV.int (checkOp k n r)) :=
  Fn.plain Try.func112 rfl (by kernel_rfl) fun μ w vs ⟨v0, _, e0, h0, v1, _, e1, h1, e2⟩ _ => by
    subst e0 e1 e2; rw [agg2_vals h0, show v1 = .int .i64 r from h1]; exact vals_Check k n r w
theorem ref_CheckOperand_fn (k n r : Int) : Fn (Cfg.mk Try.prog (ttAt ttl) ttl_ok.ok mixd) 132 [IV.agg [IV.int k, IV.int n], IV.int r] (IV.int (checkOp k n r)) :=
  Fn.plain Try.func132 rfl (by kernel_rfl) fun μ w vs ⟨v0, _, e0, h0, v1, _, e1, h1, e2⟩ _ => by
    subst e0 e1 e2; rw [agg2_vals h0, show v1 = .int .i64 r from h1]; exact ref_CheckOperand k n r w
theorem vals_Holds_fn (k a b : Int) : Fn (Cfg.mk Try.prog (ttAt ttl) ttl_ok.ok mixd) 111 [IV.int k, IV.int a, IV.int b] (IV.tup [IV.bool (holdsB k a b), IV.int (holdsE k)]) :=
  Fn.tups [.bool (holdsB k a b), .int .i64 (holdsE k)] Try.func111 rfl (by kernel_rfl) fun μ w vs hv _ => by
    rw [IVs_vals (us := [.int .i64 k, .int .i64 a, .int .i64 b]) hv]; exact (vals_Holds k a b w).mono fun e w' ⟨h1, h2⟩ => ⟨h1, same_below h2⟩
theorem ref_HoldsOf_fn (k a b : Int) : Fn (Cfg.mk Try.prog (ttAt ttl) ttl_ok.ok mixd) 117 [IV.int k, IV.int a, IV.int b] (IV.tup [IV.bool (holdsB k a b), IV.int (holdsE k)]) :=
  Fn.tups [.bool (holdsB k a b), .int .i64 (holdsE k)] Try.func117 rfl (by kernel_rfl) fun μ w vs hv _ => by
    rw [IVs_vals (us := [.int .i64 k, .int .i64 a, .int .i64 b]) hv]; exact (ref_HoldsOf k a b w).mono fun e w' ⟨h1, h2⟩ => ⟨h1, same_below h2⟩
theorem vals_Reckon_fn (k a b : Int) : Fn (Cfg.mk Try.prog (ttAt ttl) ttl_ok.ok mixd) 113 [IV.int k, IV.int a, IV.int b] (IV.tup [IV.int (reckonN k a b), IV.int (reckonE k)]) :=
  Fn.tups [.int .i64 (reckonN k a b), .int .i64 (reckonE k)] Try.func113 rfl (by kernel_rfl) fun μ w vs hv _ => by
    rw [IVs_vals (us := [.int .i64 k, .int .i64 a, .int .i64 b]) hv]; exact vals_Reckon k a b w
theorem ref_ReckonOf_fn (k a b : Int) : Fn (Cfg.mk Try.prog (ttAt ttl) ttl_ok.ok mixd) 119 [IV.int k, IV.int a, IV.int b] (IV.tup [IV.int (reckonN k a b), IV.int (reckonE k)]) :=
  Fn.tups [.int .i64 (reckonN k a b), .int .i64 (reckonE k)] Try.func119 rfl (by kernel_rfl) fun μ w vs hv _ => by
    rw [IVs_vals (us := [.int .i64 k, .int .i64 a, .int .i64 b]) hv]; exact (ref_ReckonOf k a b w).mono fun e w' ⟨h1, h2⟩ => ⟨h1, same_below h2⟩
theorem ref_isKey_fn (k : Int) : Fn (Cfg.mk Try.prog (ttAt ttl) ttl_ok.ok mixd) 131 [IV.int k] (IV.bool (isKeyB k)) :=
  Fn.plain Try.func131 rfl (by kernel_rfl) fun μ w vs hv _ => by
    rw [IVs_vals (us := [.int .i64 k]) hv]; exact (ref_isKey k w).mono fun e w' ⟨h1, h2⟩ => ⟨h1, same_below h2⟩

theorem txn_at {μ : Mem} {w : World} (ha : Agr μ w) {t : Txn} (hb : TxnB t) {v : Value} (h : (txnV t).p μ v) : ∃ ra rc ga gc sa sc, v = .agg #[.slice ra t.reads.length rc, .slice ga t.guards.length gc, .slice sa t.sets.length sc] ∧ TxnAt w ra t.reads.length ga t.guards.length sa t.sets.length t := by
  obtain ⟨vs, rfl, ⟨v0, _, e0, h0, v1, _, e1, h1, v2, _, e2, h2, e3⟩, _⟩ := h
  subst e0 e1 e2 e3
  obtain ⟨ra, rc, rfl, l1, l2, r1⟩ := view_rd ha cI_val (fun _ => by simp [encI]) h0
  obtain ⟨ga, gc, rfl, l3, l4, r2⟩ := view_rd ha cG_val (fun _ => by simp [encG]) h1
  obtain ⟨sa, sc, rfl, _, _, r3⟩ := view_rd ha cS_val (fun _ => by simp [encS]) h2
  exact ⟨ra, rc, ga, gc, sa, sc, rfl, r1, r2, r3, by simp only [maxLen] at l2; omega, by simp only [maxLen] at l4; omega, hb⟩
theorem txn_Check_fn (t : Txn) (hb : TxnB t) : Fn (Cfg.mk Try.prog (ttAt ttl) ttl_ok.ok mixd) 81 [txnV t] (IV.int (checkTxn t)) :=
  Fn.plain Try.func81 rfl (by kernel_rfl) fun μ w vs ⟨v0, _, e0, h0, e1⟩ ha => by
    subst e0 e1
    obtain ⟨ra, rc, ga, gc, sa, sc, rfl, h⟩ := txn_at ha hb h0
    exact txn_Check _ _ _ _ _ _ _ _ _ t w h
theorem ref_CheckTxn_fn (t : Txn) (hb : TxnB t) : Fn (Cfg.mk Try.prog (ttAt ttl) ttl_ok.ok mixd) 100 [txnV t] (IV.int (checkTxn t)) :=
  Fn.plain Try.func100 rfl (by kernel_rfl) fun μ w vs ⟨v0, _, e0, h0, e1⟩ ha => by
    subst e0 e1
    obtain ⟨ra, rc, ga, gc, sa, sc, rfl, h⟩ := txn_at ha hb h0
    exact ref_CheckTxn _ _ _ _ _ _ _ _ _ t w h
theorem txn_Keys_fn (t : Txn) (hb : TxnB t) : Fn (Cfg.mk Try.prog (ttAt ttl) ttl_ok.ok mixd) 71 [txnV t] (intsV (keysOf t)) :=
  ⟨⟨_, Try.func71, rfl, by kernel_rfl⟩, fun μ w vs ⟨v0, _, e0, h0, e1⟩ ha => by
    subst e0 e1
    obtain ⟨ra, rc, ga, gc, sa, sc, rfl, h⟩ := txn_at ha hb h0
    refine (txn_Keys _ _ _ _ _ _ _ _ _ t w h).mono ?_
    rintro e w' ⟨v, rfl, ho, hb⟩
    have hs := Stp.of_below ha hb
    obtain ⟨μ', k1, k2, k3, k4⟩ := own_freeze hs.agr cI_val encI_len oneI ho
    exact ⟨v, μ', rfl, k4, stp_more hs k1 k2 k3⟩⟩
theorem do_stp {μ : Mem} {w w' : World} {r1 r2 : List Int} {b : Bool} {v1 v2 : Value} {E : TypeId} (ha : Agr μ w) (hb : Below w.heap.size w w') (h1 : Own E 1 encI w' w.heap.size v1 r1) (h2 : Own E 1 encI w' w.heap.size v2 r2) :
    ∃ v μ', Ending.returned (.tuple #[.agg #[.bool b, v1], v2]) = .returned v ∧ (IV.tup [resV ⟨b, r1⟩, intsV r2]).p μ' v ∧ Stp μ w μ' w' := by
  have hs := Stp.of_below ha hb
  obtain ⟨μ', k1, k2, k3, k4⟩ := own_freeze hs.agr cI_val encI_len oneI h1
  obtain ⟨ν, m1, m2, m3, m4⟩ := own_freeze k3 cI_val encI_len oneI h2
  have ho : v1.oneCell' = true := by obtain ⟨A, c, e, _⟩ := k4; rw [e]; rfl
  refine ⟨_, ν, rfl, ⟨[.agg #[.bool b, v1], v2], rfl, _, _, rfl, ⟨[.bool b, v1], rfl, ⟨_, _, rfl, rfl, _, _, rfl, IV.mono _ m1 k4, rfl⟩, ?_⟩, _, _, rfl, m4, rfl⟩, stp_more hs (k1.trans m1) (fun b hb => (m2 b hb).elim (k2 b) .inr) m3⟩
  intro u hu
  simp only [List.mem_cons, List.not_mem_nil, or_false] at hu
  rcases hu with rfl | rfl
  · rfl
  · exact ho
theorem txn_Do_fn (t : Txn) (xs : List Int) (hb : TxnB t) (hok : checkTxn t = 0) (hx : xs.length = t.reads.length) : Fn (Cfg.mk Try.prog (ttAt ttl) ttl_ok.ok mixd) 82 [txnV t, intsV xs] (IV.tup [resV ⟨runDone t xs, xs⟩, intsV (runSets t xs)]) :=
  ⟨⟨_, Try.func82, rfl, by kernel_rfl⟩, fun μ w vs ⟨v0, _, e0, h0, v1, _, e1, h1, e2⟩ ha => by
    subst e0 e1 e2
    obtain ⟨ra, rc, ga, gc, sa, sc, rfl, h⟩ := txn_at ha hb h0
    obtain ⟨xa, xc, rfl, _, _, hr⟩ := view_rd ha cI_val (fun _ => by simp [encI]) h1
    rw [hx] at hr
    rw [hx]
    refine (txn_Do _ _ _ _ _ _ _ _ _ t _ _ xs w h hr hok).mono ?_
    rintro e w' ⟨v1, v2, rfl, o1, o2, hb⟩
    exact do_stp ha hb o1 o2⟩
theorem ref_RunOf_fn (t : Txn) (xs : List Int) (hb : TxnB t) (hok : checkTxn t = 0) (hx : xs.length = t.reads.length) : Fn (Cfg.mk Try.prog (ttAt ttl) ttl_ok.ok mixd) 87 [txnV t, intsV xs] (IV.tup [resV ⟨runDone t xs, xs⟩, intsV (runSets t xs)]) :=
  ⟨⟨_, Try.func87, rfl, by kernel_rfl⟩, fun μ w vs ⟨v0, _, e0, h0, v1, _, e1, h1, e2⟩ ha => by
    subst e0 e1 e2
    obtain ⟨ra, rc, ga, gc, sa, sc, rfl, h⟩ := txn_at ha hb h0
    obtain ⟨xa, xc, rfl, _, _, hr⟩ := view_rd ha cI_val (fun _ => by simp [encI]) h1
    rw [hx] at hr
    rw [hx]
    refine (ref_RunOf _ _ _ _ _ _ _ _ _ t _ _ xs w h hr hok).mono ?_
    rintro e w' ⟨v1, v2, rfl, o1, o2, hb⟩
    exact do_stp ha hb o1 o2⟩
end Go.Proofs.Ytjgmbgfcffnanab
