/- A slice literal whose cells hold slots, as what is owned. No program. -/
import Derived.Test.YtjgmbgfcffnanabNs
namespace Go.Proofs.Ytjgmbgfcffnanab
open Go.RowKit

section
variable {C : Cfg} {σ : Env} {H : List Ent} {fr : Nat} {d : Option Tmp} {ty : TypeId} {pos : String} {after : Array Edge} {gu : Option (Nat × Bool)}
theorem OpE.ofU {o : Oper} {s : SV} {ob : HObj} (hsp : ob.span = 1) (h : ∀ ρ μ a w, LookOk ρ μ σ o a → Agr μ w → ρ fr = none → o.wp C.P a w (fun a' w' => ∃ v u μ', a' = a.put o.dst v ∧ SV.R (upd ρ fr u) μ' s v ∧ EntOk (upd ρ fr u) μ' w' (fr, ob) ∧ (∀ g, blk u = some g → w.heap.size ≤ g) ∧ Stp μ w μ' w') NoExit) : OpE C o σ H fr s ((fr, ob) :: H) (fr + 1) := fun ρ μ a w hl ha hH hfree => by
  have h0 : ρ fr = none := hfree fr (Nat.le_refl _) (Nat.lt_succ_self _)
  refine Oper.wp_mono ?_ (h ρ μ a w hl ha h0)
  rintro a' w' ⟨v, u, μ', rfl, h1, h2, h3, h4⟩
  have hle := upd_le (v := u) h0
  have heb : ∀ g, eb (upd ρ fr u) (fr, ob) g ↔ blk u = some g := fun g => (eb_one hsp).trans (by rw [upd_at]; rfl)
  have hold : ∀ e ∈ H, eb (upd ρ fr u) e = eb ρ e := fun e he => eb_le hle (hH.1 e he).named
  have hH2 := (hH.stp h4).keep hle (Mem.le.refl _) (fun e he g hg => ⟨rfl, (((hH.stp h4).1 e he).lt hg).2⟩)
  have key : ∀ e ∈ H, ∀ g, blk u = some g → ¬ eb (upd ρ fr u) e g := fun e hm g hg hg2 => by
    have h5 := h3 g hg
    rw [hold e hm] at hg2
    have h6 := ((hH.1 e hm).lt hg2).1
    omega
  refine ⟨v, μ', _, rfl, h1, ⟨fun e he => ?_, fun e he e' he' hne g hg hg2 => ?_⟩, hle, fun i hi => ?_, ⟨h4.below.os, h4.below.tape, h4.below.output, h4.below.size, fun k hk _ => h4.below.block k hk, h4.le, fun b hb => (h4.new b hb).imp id .inl, h4.agr, fun e he g hg => ?_⟩⟩
  · rcases List.mem_cons.1 he with rfl | he
    · exact h2
    · exact hH2.1 e he
  · rcases List.mem_cons.1 he with rfl | he
    · rcases List.mem_cons.1 he' with rfl | he'
      · exact hne rfl
      · exact key e' he' g ((heb g).1 hg) hg2
    · rcases List.mem_cons.1 he' with rfl | he'
      · exact key e he g ((heb g).1 hg2) hg
      · exact hH2.2 e he e' he' hne g hg hg2
  · unfold upd at hi
    by_cases e : i = fr
    · exact .inr ⟨by omega, by omega⟩
    · rw [if_neg e] at hi; exact .inl hi
  · rcases List.mem_cons.1 he with rfl | he
    · exact .inr (h3 g ((heb g).1 hg))
    · rw [hold e he] at hg; exact .inl ⟨e, he, hg⟩
theorem ope_slitBlk {t et : TypeId} {de : TyInf} {n k : Nat} {ps : List (Nat × Operand)} {out : List SV} (hT : slT C t = some (et, de)) (hk : de.size = k) (hz : Nat.beq de.zero.cells.size k = true) (hk0 : Nat.blt 0 k = true) (h1 : oneB de.zero.cells.toList = true) (hn : Nat.ble (n * k) 16777216 = true)
    (hp : Parts σ (fun i => some (i * k, k)) (repS (zeroS de.zero) n) ps out) : OpE C ⟨d, .buildSlice t n ps.toArray, ty, pos, after, gu⟩ σ H fr (.sl fr n) ((fr, .blk et out) :: H) (fr + 1) := OpE.ofU rfl fun ρ μ a w hl ha hfr => by
  obtain ⟨hu, hTe⟩ := slT_at hT
  subst hk
  have hzl : de.zero.cells.size = de.size := Nat.eq_of_beq_eq_true hz
  have hpos : 0 < de.size := Nat.blt_eq ▸ hk0
  have hev : ∀ p ∈ ps, ∀ s, Ev σ p.2 s → SV.R ρ μ s (a.eval p.2) := fun p hp s hs => hs.at hl (by simp [Op.operands]; exact ⟨p.1, hp⟩)
  let us : Array Value := if n * de.size = 0 then #[] else (Array.range (n * de.size)).map (de.zero.cells[· % de.zero.cells.size]!)
  have hus : us = (Array.range (n * de.size)).map (de.zero.cells[· % de.zero.cells.size]!) := by
    show (if n * de.size = 0 then #[] else _) = _
    split
    · rename_i h; rw [h]; simp
    · rfl
  have hrep : ∀ n, (repS (zeroS de.zero) n).length = n * de.size ∧ ∀ j s, (repS (zeroS de.zero) n)[j]? = some s → s = SV.im (IV.val (de.zero.cells[j % de.zero.cells.size]!)) := by
    intro n
    have hzz : (zeroS de.zero).length = de.size := by simp [zeroS, hzl]
    induction n with
    | zero => exact ⟨by simp [repS], fun j s h => by simp [repS] at h⟩
    | succ n ih =>
      refine ⟨by simp only [repS, List.length_append, hzz, ih.1]; rw [Nat.add_mul]; omega, fun j s h => ?_⟩
      simp only [repS] at h
      rcases Nat.lt_or_ge j de.size with hj | hj
      · rw [List.getElem?_append_left (by omega)] at h
        unfold zeroS at h
        rw [List.getElem?_map, Option.map_eq_some_iff] at h
        obtain ⟨u, h2, rfl⟩ := h
        rw [hzl, Nat.mod_eq_of_lt hj]
        congr 2
        rw [Array.getElem?_toList] at h2
        simp [getElem!_def, h2]
      · rw [List.getElem?_append_right (by omega), hzz] at h
        rw [ih.2 _ s h, hzl, Nat.mod_eq_sub_mod hj]
  have hR : SV.Rs ρ μ (repS (zeroS de.zero) n) us.toList ∧ One us.toList := by
    have key : ∀ (l : List SV) (vs : List Value), l.length = vs.length → (∀ (j : Nat) (s : SV) (v : Value), l[j]? = some s → vs[j]? = some v → SV.R ρ μ s v) → SV.Rs ρ μ l vs := by
      intro l
      induction l with
      | nil => intro vs h _; have : vs = [] := List.eq_nil_of_length_eq_zero (by simpa using h.symm); unfold SV.Rs; exact this
      | cons s l ih =>
        intro vs h h2
        cases vs with
        | nil => simp at h
        | cons v vs => unfold SV.Rs; exact ⟨v, vs, rfl, h2 0 s v rfl rfl, ih vs (by simpa using h) fun j s' v' hs hv => h2 (j + 1) s' v' (by simpa using hs) (by simpa using hv)⟩
    rw [hus]
    refine ⟨key _ _ (by simp [(hrep n).1]) fun j s v hs hv => ?_, fun u hu => ?_⟩
    · have hj : j < n * de.size := by rw [← (hrep n).1]; exact (List.getElem?_eq_some_iff.1 hs).1
      rw [(hrep n).2 j s hs]
      simp [hj] at hv
      exact R_im.2 hv.symm
    · simp only [Array.toList_map, List.mem_map] at hu
      obtain ⟨j, hj, rfl⟩ := hu
      have hlt : j % de.zero.cells.size < de.zero.cells.size := Nat.mod_lt _ (by omega)
      refine oneB_one h1 _ ?_
      rw [getElem!_pos de.zero.cells _ hlt]
      exact Array.getElem_mem_toList hlt
  obtain ⟨us', h4, h5, h6⟩ := hp.fill (ρ := ρ) (μ := μ) (a := a) hev hR.1 hR.2
  have hle := Nat.le_of_ble_eq_true hn
  have hrun : (execOp a.eval ⟨d, .buildSlice t n ps.toArray, ty, pos, after, gu⟩).run C.P w = .ok (.value (.slice (some ⟨w.heap.size, 0, none⟩) n n)) (w.alloc (.cells us' et)) := by
    simp only [execOp, Instr.buildSlice, Sem.run_bind, run_underlying hu, Result.andThen_ok, hTe.size w]
    rw [if_neg (by omega)]
    have hps : (Array.map (fun (x : Nat × Operand) => (x.fst, a.eval x.snd)) ps.toArray).toList = ps.map fun p => (p.1, a.eval p.2) := by simp
    by_cases h0 : n * de.size = 0
    · have h4' := h4
      rw [hus, h0] at h4'
      simp only [h0, if_true, Sem.run_bind, Sem.run_pure, Result.andThen_ok, hps]
      have e0 : Array.map (fun x => (#[] : Array Value)[x % (#[] : Array Value).size]!) (Array.range 0) = Array.map (fun x => de.zero.cells[x % de.zero.cells.size]!) (Array.range 0) := by simp
      rw [e0, h4']
      simp [newRow, newObj, Sem.run]
    · have h4' := h4
      rw [hus] at h4'
      simp only [if_neg h0, Sem.run_bind, Sem.run_pure, Result.andThen_ok, hps, hTe.zero w, h4']
      simp [newRow, newObj, Sem.run]
  have hs := Stp.alloc (μ := μ) ha (.cells us' et)
  have hno : μ w.heap.size = none := by
    cases e : μ w.heap.size with
    | none => rfl
    | some q => exact absurd (ha.lt (b := w.heap.size) (by rw [e]; simp)) (Nat.lt_irrefl _)
  unfold Oper.wp
  rw [hrun]
  refine ⟨_, .pointer (some ⟨w.heap.size, 0, none⟩), μ, rfl, ?_, ⟨w.heap.size, us', upd_at _ _ _, heap_alloc_new w _, h5.mono (upd_le hfr) (Mem.le.refl _), hno, h6⟩, fun g hg => ?_, hs⟩
  · unfold SV.R
    exact ⟨w.heap.size, by rw [upd_at]; rfl, rfl⟩
  · simp only [blk, Option.some.injEq] at hg; omega
theorem opn_indexSl {t : TypeId} {x ix : Go.Operand} {k r n : Nat} {i : Int} (hk : slE C t = some k) (hx : Ev σ x (.sl r n)) (hi : Ev σ ix (.im (IV.int i))) (h0 : 0 ≤ i) (h1 : i < n) :
    OpN C ⟨d, .indexAddr t x ix, ty, pos, after, gu⟩ σ (.off r (i.toNat * k)) := OpN.pure fun ρ μ a w hl ha => by
  have h2 := hx.at hl (by simp [Op.operands])
  unfold SV.R at h2
  obtain ⟨g, h3, h4⟩ := h2
  have h7 := hi.val hl (by simp [Op.operands])
  refine ⟨_, ?_, by unfold SV.R; exact ⟨g, h3, rfl⟩⟩
  simp only [execOp, Sem.run_bind, h4, h7, run_indexAt hk w g 0 n n i .i64 h0 h1, Result.andThen_ok, Sem.run_pure, Nat.zero_add]
theorem opn_lenSl {t : TypeId} {x : Go.Operand} {r n k' : Nat} (hk : slE C t = some k') (hx : Ev σ x (.sl r n)) : OpN C ⟨d, .call { callee := .builtin .len, args := #[x], argTypes := #[t] }, ty, pos, after, gu⟩ σ (.im (IV.int n)) := OpN.pure fun ρ μ a w hl ha => by
  have h2 := hx.at hl (by simp [Op.operands, Call.operands])
  unfold SV.R at h2
  obtain ⟨g, h3, h4⟩ := h2
  obtain ⟨e, de, h9, _, _⟩ := slE_at hk
  refine ⟨_, ?_, R_im.2 rfl⟩
  simp [execOp, resolve, invoke, builtin, h4, Builtin.len_, goInt, run_underlying h9]
theorem opr_loadNestIn {α : Type} {t rt st : TypeId} {x : Go.Operand} {dt : TyInf} {i q o : Nat} {enc : α → List IV} {xss : List (List α)} {xs : List α} {y : α} {s : IV} (ht : C.tt t = some dt) (hag : aggB dt.und = false) (hx : Ev σ x (.off (i + 1 + q) o)) (hh : hget H i = some (.nest rt st 1 enc xss)) (hq : xss[q]? = some xs) (hy : xs[o]? = some y) (hs : enc y = [s]) :
    OpR C ⟨d, .load t x, ty, pos, after, gu⟩ σ H (.im s) := OpR.read fun ρ μ a w hl ha hH => by
  have h0 := hx.at hl (by simp [Op.operands])
  unfold SV.R at h0
  obtain ⟨g, h1, h2⟩ := h0
  obtain ⟨_, h6, ⟨_, _, _, _, _, hne⟩, _⟩ := hH.1 _ (hget_mem hh)
  obtain ⟨v, _, h3, us, h4, h5, h7, h8⟩ := hne _ _ hq
  rw [h3] at h1
  simp only [Option.bind_some] at h1
  rw [ownsRow_blk h4] at h1
  obtain ⟨u, h9, h10⟩ := h5.get (j := o) (s := s) (by
    have : ∀ (xs : List α) (o : Nat), xs[o]? = some y → (xs.flatMap enc)[o]? = some s := by
      intro xs
      induction xs with
      | nil => intro o h; simp at h
      | cons z zs ih =>
        intro o h
        have hz := h6 z
        match hez : enc z, hz with
        | [c], _ =>
          rw [List.flatMap_cons, hez]
          cases o with
          | zero => simp at h; subst h; rw [hez] at hs; injection hs with hs; subst hs; rfl
          | succ o => simpa using ih o (by simpa using h)
    exact this xs o hy)
  obtain ⟨A, n, c, hv⟩ := ownBlock_blk h1
  have hcell : w.cell? ⟨g, o, none⟩ = some u := by
    rcases h4.2 with ⟨hv0, _⟩ | ⟨g', cap, cur, hv', _, hg', hnc, hcm, hcs, htake⟩
    · rw [hv0] at h1; cases h1
    · rw [hv'] at h1
      simp only [Value.ownBlock, Option.some.injEq] at h1
      subst h1
      rw [← htake, List.getElem?_take] at h9
      split at h9
      · simp only [World.cell?, hg']; simpa using h9
      · cases h9
  refine ⟨u, ?_, R_im.2 h10⟩
  simp only [execOp, h2, Instr.loadAt, Instr.sureAddr, loadVar, Sem.run_bind, Sem.run_pure, Result.andThen_ok, (C.ok _ _ ht).agg w, hag, if_false, Bool.false_eq_true, run_load, hcell]

end
end Go.Proofs.Ytjgmbgfcffnanab
