/- The logic's rules for what the call owns, and for slices. Over any program. No condition. -/
import Derived.Test.YtjgmbgfcffnanacLog5
import Derived.Laws.MakeOwn
namespace Go.Proofs.Ytjgmbgfcffnanac
open Go.RowKit

def hget : List Ent → Nat → Option HObj
  | [], _ => none
  | (i, o) :: H, n => match Nat.beq i n with
    | true => some o
    | false => hget H n
def hset : List Ent → Nat → HObj → List Ent
  | [], _, _ => []
  | (i, o) :: H, n, o' => match Nat.beq i n with
    | true => (n, o') :: hset H n o'
    | false => (i, o) :: hset H n o'
def hdel : List Ent → Nat → List Ent
  | [], _ => []
  | (i, o) :: H, n => match Nat.beq i n with
    | true => hdel H n
    | false => (i, o) :: hdel H n
theorem hget_mem : ∀ {H : List Ent} {n : Nat} {o : HObj}, hget H n = some o → (n, o) ∈ H
  | (i, o') :: H, n, o, h => by
    simp only [hget] at h
    cases hb : Nat.beq i n with
    | true => rw [hb] at h; injection h with h; subst h; rw [Nat.eq_of_beq_eq_true hb]; exact List.mem_cons_self
    | false => rw [hb] at h; exact List.mem_cons_of_mem _ (hget_mem h)
theorem hset_mem : ∀ {H : List Ent} {n : Nat} {o : HObj} {e : Ent}, e ∈ hset H n o → e = (n, o) ∨ (e ∈ H ∧ e.1 ≠ n)
  | (i, o') :: H, n, o, e, h => by
    simp only [hset] at h
    cases hb : Nat.beq i n with
    | true =>
      rw [hb] at h
      rcases List.mem_cons.1 h with h | h
      · exact .inl h
      · exact (hset_mem h).imp id fun ⟨h1, h2⟩ => ⟨List.mem_cons_of_mem _ h1, h2⟩
    | false =>
      rw [hb] at h
      rcases List.mem_cons.1 h with h | h
      · subst h; exact .inr ⟨List.mem_cons_self, Nat.ne_of_beq_eq_false hb⟩
      · exact (hset_mem h).imp id fun ⟨h1, h2⟩ => ⟨List.mem_cons_of_mem _ h1, h2⟩
theorem hdel_mem : ∀ {H : List Ent} {n : Nat} {e : Ent}, e ∈ hdel H n → e ∈ H ∧ e.1 ≠ n
  | (i, o') :: H, n, e, h => by
    simp only [hdel] at h
    cases hb : Nat.beq i n with
    | true =>
      rw [hb] at h
      exact ⟨List.mem_cons_of_mem _ (hdel_mem h).1, (hdel_mem h).2⟩
    | false =>
      rw [hb] at h
      rcases List.mem_cons.1 h with h | h
      · subst h; exact ⟨List.mem_cons_self, Nat.ne_of_beq_eq_false hb⟩
      · exact ⟨List.mem_cons_of_mem _ (hdel_mem h).1, (hdel_mem h).2⟩

/- one owned block is turned -/
structure Turned (w w' : World) (g : Option Nat) : Prop where
  os : w'.os = w.os
  tape : w'.tape = w.tape
  output : w'.output = w.output
  size : w.heap.size ≤ w'.heap.size
  block : ∀ k, k < w.heap.size → some k ≠ g → w'.heap[k]? = w.heap[k]?
theorem Agr.turned {μ : Mem} {w w' : World} {g : Option Nat} (h : Agr μ w) (ht : Turned w w' g) (hg : ∀ k, g = some k → μ k = none) : Agr μ w' := fun b cs hb => by
  obtain ⟨t, fz, hh⟩ := h b cs hb
  exact ⟨t, fz, (ht.block b (Array.getElem?_eq_some_iff.1 hh).1 (fun e => by rw [hg b e.symm] at hb; cases hb)).trans hh⟩
theorem heap_set {ρ : Nms} {μ : Mem} {w w' : World} {H : List Ent} (hH : HeapOk ρ μ w H) (ha : Agr μ w) {i : Nat} {o o' : HObj} (hm : (i, o) ∈ H) (ht : Turned w w' (eb ρ (i, o))) (he : EntOk ρ μ w' (i, o')) :
    HeapOk ρ μ w' (hset H i o') ∧ EStp ρ H μ w ρ (hset H i o') μ w' := by
  have hg : ∀ k, eb ρ (i, o) = some k → μ k = none := fun k hk => ((hH.1 _ hm).lt hk).2
  have hold : ∀ e ∈ hset H i o', ∃ e0 ∈ H, eb ρ e = eb ρ e0 ∧ e0.1 = e.1 := fun e h => by
    rcases hset_mem h with rfl | ⟨h1, _⟩
    · exact ⟨(i, o), hm, rfl, rfl⟩
    · exact ⟨e, h1, rfl, rfl⟩
  refine ⟨⟨fun e h => ?_, fun e h e' h' hne k hk => ?_⟩, ⟨ht.os, ht.tape, ht.output, ht.size, fun k hk hno => ht.block k hk (fun e => hno _ hm e.symm), Mem.le.refl _, fun b hb => .inl hb, ha.turned ht hg, fun e h k hk => ?_⟩⟩
  · rcases hset_mem h with rfl | ⟨h1, h2⟩
    · exact he
    · exact (hH.1 e h1).keep (Nms.le.refl _) (Mem.le.refl _) fun k hk => ⟨ht.block k ((hH.1 e h1).lt hk).1 (fun e1 => hH.2 _ hm _ h1 (fun e2 => h2 e2.symm) k e1.symm hk), ((hH.1 e h1).lt hk).2⟩
  · obtain ⟨e0, h1, h2, h3⟩ := hold e h
    obtain ⟨e0', h1', h2', h3'⟩ := hold e' h'
    rw [h2']
    exact hH.2 e0 h1 e0' h1' (by rw [h3, h3']; exact hne) k (h2 ▸ hk)
  · obtain ⟨e0, h1, h2, _⟩ := hold e h
    exact .inl ⟨e0, h1, h2 ▸ hk⟩
theorem EStp.same {ρ : Nms} {μ : Mem} {w : World} {H : List Ent} (ha : Agr μ w) : EStp ρ H μ w ρ H μ w := ⟨rfl, rfl, rfl, Nat.le_refl _, fun _ _ _ => rfl, Mem.le.refl _, fun _ h => .inl h, ha, fun e he _ hg => .inl ⟨e, he, hg⟩⟩

section
variable {C : Cfg} {σ : Env} {d : Option Tmp} {ty : TypeId} {pos : String} {after : Array Edge} {gu : Option (Nat × Bool)} {H : List Ent} {fr : Nat}

theorem OpE.read {o : Oper} {s : SV} (h : ∀ ρ μ a w, LookOk ρ μ σ o a → Agr μ w → HeapOk ρ μ w H → ∃ v, (execOp a.eval o).run C.P w = .ok (.value v) w ∧ SV.R ρ μ s v) : OpE C o σ H fr s H fr := fun ρ μ a w hl ha hH _ => by
  obtain ⟨v, h1, h2⟩ := h ρ μ a w hl ha hH
  unfold Oper.wp
  rw [h1]
  exact ⟨v, μ, ρ, rfl, h2, hH, Nms.le.refl _, fun i hi => .inl hi, EStp.same ha⟩

/- loads and stores of what the call owns -/
def ldS (dt : TyInf) (l : List SV) : Option SV := match aggB dt.und with
  | true => match Nat.ble dt.size l.length with
    | true => some (.agg (l.take dt.size))
    | false => none
  | false => match l with
    | s :: _ => some s
    | [] => none
theorem Rs_drop {ρ : Nms} {μ : Mem} : ∀ {l : List SV} {vs : List Value} (n : Nat), SV.Rs ρ μ l vs → SV.Rs ρ μ (l.drop n) (vs.drop n)
  | l, vs, 0, h => h
  | [], vs, n + 1, h => by unfold SV.Rs at h; subst h; simp [SV.Rs]
  | s :: l, _, n + 1, h => by unfold SV.Rs at h; obtain ⟨v, vs', e, _, h2⟩ := h; subst e; exact Rs_drop n h2
theorem Rs_take {ρ : Nms} {μ : Mem} : ∀ {l : List SV} {vs : List Value} (n : Nat), SV.Rs ρ μ l vs → SV.Rs ρ μ (l.take n) (vs.take n)
  | l, vs, 0, h => by simp [SV.Rs]
  | [], vs, n + 1, h => by unfold SV.Rs at h; subst h; simp [SV.Rs]
  | s :: l, _, n + 1, h => by
    unfold SV.Rs at h; obtain ⟨v, vs', e, h1, h2⟩ := h; subst e
    simp only [List.take_succ_cons]; unfold SV.Rs; exact ⟨v, _, rfl, h1, Rs_take n h2⟩
theorem run_load_blk {ρ : Nms} {μ : Mem} {w : World} {t bt : TypeId} {dt : TyInf} (ht : TyIs C.P t dt) {cs : List SV} {o g : Nat} {us : Array Value} (hg : w.heap[g]? = some (.cells us bt (0, 0))) (hR : SV.Rs ρ μ cs us.toList) (h1 : One us.toList) {s : SV} (hs : ldS dt (cs.drop o) = some s) :
    ∃ v, (Instr.loadAt t (.pointer (some ⟨g, o, none⟩))).run C.P w = .ok v w ∧ SV.R ρ μ s v := by
  have hcell : ∀ j v, us.toList[j]? = some v → w.cell? ⟨g, j, none⟩ = some v := fun j v hj => by simp only [World.cell?, hg]; simpa using hj
  have hd := Rs_drop o hR
  unfold ldS at hs
  cases hag : aggB dt.und with
  | true =>
    rw [hag] at hs
    simp only at hs
    cases hb : Nat.ble dt.size (cs.drop o).length with
    | false => rw [hb] at hs; cases hs
    | true =>
      rw [hb] at hs
      injection hs with hs
      subst hs
      have hle := Nat.le_of_ble_eq_true hb
      have hl := hd.length
      have h3 := run_loadCells_list (P := C.P) w ⟨g, o, none⟩ ((us.toList.drop o).take dt.size) (fun j v hj => by
        rw [List.getElem?_take] at hj
        split at hj
        · rw [List.getElem?_drop] at hj
          have := hcell _ v hj
          by_cases h0 : j = 0 <;> simp [Addr.add, h0] <;> simpa [h0] using this
        · cases hj)
      rw [List.length_take, Nat.min_eq_left (by rw [hl]; exact hle)] at h3
      refine ⟨.agg ((us.toList.drop o).take dt.size).toArray, ?_, ?_⟩
      · simp only [Instr.loadAt, Instr.sureAddr, loadVar, Sem.run_bind, Sem.run_pure, Result.andThen_ok, ht.agg w, hag, if_true, ht.size w, h3]
      · unfold SV.R
        exact ⟨_, rfl, Rs_take _ hd, fun u hu => h1 u (List.mem_of_mem_drop (List.mem_of_mem_take hu))⟩
  | false =>
    rw [hag] at hs
    simp only at hs
    cases hl : cs.drop o with
    | nil => rw [hl] at hs; cases hs
    | cons s0 l =>
      rw [hl] at hs hd
      injection hs with hs
      subst hs
      obtain ⟨v, h2, h3⟩ := hd.get (j := 0) rfl
      rw [List.getElem?_drop] at h2
      have h4 := hcell _ v h2
      refine ⟨v, ?_, h3⟩
      simp only [Instr.loadAt, Instr.sureAddr, loadVar, Sem.run_bind, Sem.run_pure, Result.andThen_ok, ht.agg w, hag, if_false, Bool.false_eq_true, run_load]
      rw [show (o + 0) = o from rfl] at h4
      rw [h4]
theorem ope_load {t bt : TypeId} {x : Operand} {dt : TyInf} {i o : Nat} {cs : List SV} {s : SV} (ht : C.tt t = some dt) (hx : Ev σ x (.off i o)) (hh : hget H i = some (.blk bt cs)) (hs : ldS dt (cs.drop o) = some s) : OpE C ⟨d, .load t x, ty, pos, after, gu⟩ σ H fr s H fr := OpE.read fun ρ μ a w hl ha hH => by
  have h0 := hx.at hl (by simp [Op.operands])
  unfold SV.R at h0
  obtain ⟨g, h1, h2⟩ := h0
  obtain ⟨g', us, h3, h4, h5, h6, h7⟩ := hH.1 _ (hget_mem hh)
  rw [h3] at h1
  simp only [Option.bind_some, blk, Option.some.injEq] at h1
  subst h1
  obtain ⟨v, h8, h9⟩ := run_load_blk (C.ok _ _ ht) h4 h5 h7 hs
  refine ⟨v, ?_, h9⟩
  simp only [execOp, Sem.run_bind, h2, h8, Result.andThen_ok, Sem.run_pure]
/- a row's element of one cell -/
theorem ope_loadRow {α : Type} {t rt : TypeId} {x : Operand} {dt : TyInf} {i o : Nat} {enc : α → List IV} {xs : List α} {y : α} {s : IV} (ht : C.tt t = some dt) (hag : aggB dt.und = false) (hx : Ev σ x (.off i o)) (hh : hget H i = some (.row rt 1 enc xs)) (hy : xs[o]? = some y) (hs : enc y = [s]) :
    OpE C ⟨d, .load t x, ty, pos, after, gu⟩ σ H fr (.im s) H fr := OpE.read fun ρ μ a w hl ha hH => by
  have h0 := hx.at hl (by simp [Op.operands])
  unfold SV.R at h0
  obtain ⟨g, h1, h2⟩ := h0
  obtain ⟨v, us, h3, h4, h5, h6, h7, h8⟩ := hH.1 _ (hget_mem hh)
  rw [h3] at h1
  simp only [Option.bind_some] at h1
  rw [ownsRow_blk h4] at h1
  obtain ⟨u, h9, h10⟩ := h5.get (j := o) (s := s) (by
    have : ∀ (xs : List α) (o : Nat), xs[o]? = some y → (xs.flatMap enc)[o]? = some s := by
      intro xs
      induction xs with
      | nil => intro o h; simp at h
      | cons z zs ih =>
        intro o h
        have hz := h6 z
        match hez : enc z, hz with
        | [c], _ =>
          rw [List.flatMap_cons, hez]
          cases o with
          | zero => simp at h; subst h; rw [hez] at hs; injection hs with hs; subst hs; rfl
          | succ o => simpa using ih o (by simpa using h)
    exact this xs o hy)
  obtain ⟨A, n, c, hv⟩ := ownBlock_blk h1
  have hcell : w.cell? ⟨g, o, none⟩ = some u := by
    rcases h4.2 with ⟨hv0, _⟩ | ⟨g', cap, cur, hv', _, hg', hnc, hcm, hcs, htake⟩
    · rw [hv0] at h1; cases h1
    · rw [hv'] at h1
      simp only [Value.ownBlock, Option.some.injEq] at h1
      subst h1
      rw [← htake, List.getElem?_take] at h9
      split at h9
      · simp only [World.cell?, hg']; simpa using h9
      · cases h9
  refine ⟨u, ?_, R_im.2 h10⟩
  simp only [execOp, h2, Instr.loadAt, Instr.sureAddr, loadVar, Sem.run_bind, Sem.run_pure, Result.andThen_ok, (C.ok _ _ ht).agg w, hag, if_false, Bool.false_eq_true, run_load, hcell]

theorem OpR.read {o : Oper} {s : SV} (h : ∀ ρ μ a w, LookOk ρ μ σ o a → Agr μ w → HeapOk ρ μ w H → ∃ v, (execOp a.eval o).run C.P w = .ok (.value v) w ∧ SV.R ρ μ s v) : OpR C o σ H s := fun ρ μ a w hl ha hH => by
  obtain ⟨v, h1, h2⟩ := h ρ μ a w hl ha hH
  unfold Oper.wp
  rw [h1]
  exact ⟨v, μ, rfl, h2, Stp.refl ha⟩
theorem opr_load {t bt : TypeId} {x : Operand} {dt : TyInf} {i o : Nat} {cs : List SV} {s : SV} (ht : C.tt t = some dt) (hx : Ev σ x (.off i o)) (hh : hget H i = some (.blk bt cs)) (hs : ldS dt (cs.drop o) = some s) : OpR C ⟨d, .load t x, ty, pos, after, gu⟩ σ H s := OpR.read fun ρ μ a w hl ha hH => by
  have h0 := hx.at hl (by simp [Op.operands])
  unfold SV.R at h0
  obtain ⟨g, h1, h2⟩ := h0
  obtain ⟨g', us, h3, h4, h5, h6, h7⟩ := hH.1 _ (hget_mem hh)
  rw [h3] at h1
  simp only [Option.bind_some, blk, Option.some.injEq] at h1
  subst h1
  obtain ⟨v, h8, h9⟩ := run_load_blk (C.ok _ _ ht) h4 h5 h7 hs
  refine ⟨v, ?_, h9⟩
  simp only [execOp, Sem.run_bind, h2, h8, Result.andThen_ok, Sem.run_pure]
/- a row's element of one cell -/
theorem opr_loadRow {α : Type} {t rt : TypeId} {x : Operand} {dt : TyInf} {i o : Nat} {enc : α → List IV} {xs : List α} {y : α} {s : IV} (ht : C.tt t = some dt) (hag : aggB dt.und = false) (hx : Ev σ x (.off i o)) (hh : hget H i = some (.row rt 1 enc xs)) (hy : xs[o]? = some y) (hs : enc y = [s]) :
    OpR C ⟨d, .load t x, ty, pos, after, gu⟩ σ H (.im s) := OpR.read fun ρ μ a w hl ha hH => by
  have h0 := hx.at hl (by simp [Op.operands])
  unfold SV.R at h0
  obtain ⟨g, h1, h2⟩ := h0
  obtain ⟨v, us, h3, h4, h5, h6, h7, h8⟩ := hH.1 _ (hget_mem hh)
  rw [h3] at h1
  simp only [Option.bind_some] at h1
  rw [ownsRow_blk h4] at h1
  obtain ⟨u, h9, h10⟩ := h5.get (j := o) (s := s) (by
    have : ∀ (xs : List α) (o : Nat), xs[o]? = some y → (xs.flatMap enc)[o]? = some s := by
      intro xs
      induction xs with
      | nil => intro o h; simp at h
      | cons z zs ih =>
        intro o h
        have hz := h6 z
        match hez : enc z, hz with
        | [c], _ =>
          rw [List.flatMap_cons, hez]
          cases o with
          | zero => simp at h; subst h; rw [hez] at hs; injection hs with hs; subst hs; rfl
          | succ o => simpa using ih o (by simpa using h)
    exact this xs o hy)
  obtain ⟨A, n, c, hv⟩ := ownBlock_blk h1
  have hcell : w.cell? ⟨g, o, none⟩ = some u := by
    rcases h4.2 with ⟨hv0, _⟩ | ⟨g', cap, cur, hv', _, hg', hnc, hcm, hcs, htake⟩
    · rw [hv0] at h1; cases h1
    · rw [hv'] at h1
      simp only [Value.ownBlock, Option.some.injEq] at h1
      subst h1
      rw [← htake, List.getElem?_take] at h9
      split at h9
      · simp only [World.cell?, hg']; simpa using h9
      · cases h9
  refine ⟨u, ?_, R_im.2 h10⟩
  simp only [execOp, h2, Instr.loadAt, Instr.sureAddr, loadVar, Sem.run_bind, Sem.run_pure, Result.andThen_ok, (C.ok _ _ ht).agg w, hag, if_false, Bool.false_eq_true, run_load, hcell]

theorem ovr_list : ∀ {ρ : Nms} {μ : Mem} (cs l : List SV) (vs us : List Value) (o : Nat), SV.Rs ρ μ l us → SV.Rs ρ μ cs vs → o + vs.length ≤ us.length → SV.Rs ρ μ (ovr l o cs) (us.take o ++ vs ++ us.drop (o + vs.length))
  | ρ, μ, [], l, vs, us, o, h, hc, hl => by
    unfold SV.Rs at hc; subst hc
    simpa [ovr] using h
  | ρ, μ, c :: cs, l, vs, us, o, h, hc, hl => by
    unfold SV.Rs at hc
    obtain ⟨v, vs', e, h1, h2⟩ := hc
    subst e
    unfold ovr
    have h3 := ovr_list cs (l.set o c) vs' (us.set o v) (o + 1) (SV.Rs.set h1 h o) h2 (by simp at hl ⊢; omega)
    simp only [List.length_cons] at hl
    have e1 : (us.set o v).take (o + 1) = us.take o ++ [v] := by
      rw [List.take_set, List.take_succ_eq_append_getElem (by omega)]
      rw [List.set_append_right _ _ (by simp; omega)]
      simp [Nat.min_eq_left (show o ≤ us.length by omega)]
    have e2 : (us.set o v).drop (o + 1 + vs'.length) = us.drop (o + 1 + vs'.length) := List.drop_set_of_lt (by omega)
    rw [e1, e2] at h3
    have e3 : o + (v :: vs').length = o + 1 + vs'.length := by simp; omega
    rw [e3]
    simpa using h3
theorem ope_store {t bt : TypeId} {x y : Operand} {dt : TyInf} {i o : Nat} {cs l : List SV} {s : SV} (ht : C.tt t = some dt) (hx : Ev σ x (.off i o)) (hy : Ev σ y s) (hc : Cs s l) (hn : Nat.beq l.length dt.size = true) (hh : hget H i = some (.blk bt cs)) (hle : Nat.ble (o + l.length) cs.length = true) :
    OpE C ⟨none, .store t x y, ty, pos, after, gu⟩ σ H fr (.im IV.any) (hset H i (.blk bt (ovr cs o l))) fr := fun ρ μ a w hl ha hH _ => by
  have h0 := hx.at hl (by simp [Op.operands])
  unfold SV.R at h0
  obtain ⟨g, h1, h2⟩ := h0
  have hm := hget_mem hh
  obtain ⟨g', us, h3, h4, h5, h6, h7⟩ := hH.1 _ hm
  have hebg : eb ρ (i, HObj.blk bt cs) = some g' := by simp [eb, h3, blk]
  rw [h3] at h1
  simp only [Option.bind_some, blk, Option.some.injEq] at h1
  subst h1
  obtain ⟨h8, h9⟩ := hc ρ μ _ (hy.at hl (by simp [Op.operands]))
  have hlen : (a.eval y).cells.toList.length = l.length := h8.length
  have husz : us.toList.length = cs.length := h5.length
  have hle' := Nat.le_of_ble_eq_true hle
  have hsz : (a.eval y).cells.size = dt.size := by rw [← Nat.eq_of_beq_eq_true hn, ← hlen]; simp
  have hst := run_storeCells_at (P := C.P) g' o bt (a.eval y).cells.toList 0 us w h4 (by simp only [Nat.add_zero, hlen]; simp at husz; omega) h9
  simp only [Nat.add_zero] at hst
  have hrun : (execOp a.eval ⟨none, .store t x y, ty, pos, after, gu⟩).run C.P w = .ok .skip (w.setRow g' (us.toList.take o ++ (a.eval y).cells.toList ++ us.toList.drop (o + (a.eval y).cells.toList.length)).toArray) := by
    simp only [execOp, Instr.storeAt, h2, Instr.sureAddr, Sem.run_bind, Sem.run_pure, Result.andThen_ok, storeVar, (C.ok _ _ ht).size w, hsz, ne_eq, not_true_eq_false, if_false]
    rw [hst]
    rfl
  have hturn : Turned w (w.setRow g' (us.toList.take o ++ (a.eval y).cells.toList ++ us.toList.drop (o + (a.eval y).cells.toList.length)).toArray) (eb ρ (i, HObj.blk bt cs)) := by
    rw [hebg]
    exact ⟨rfl, rfl, rfl, by simp, fun k _ hk => setRow_other w g' k _ (fun e => hk (by rw [e]))⟩
  have hnew : EntOk ρ μ (w.setRow g' (us.toList.take o ++ (a.eval y).cells.toList ++ us.toList.drop (o + (a.eval y).cells.toList.length)).toArray) (i, HObj.blk bt (ovr cs o l)) :=
    ⟨g', _, h3, setRow_heap w g' us _ bt _ h4, by
      have := ovr_list l cs (a.eval y).cells.toList us.toList o h5 h8 (by omega)
      simpa using this, h6, fun u hu => by
      simp only [List.toList_toArray, List.append_assoc, List.mem_append] at hu
      rcases hu with hu | hu | hu
      · exact h7 u (List.mem_of_mem_take hu)
      · exact h9 u hu
      · exact h7 u (List.mem_of_mem_drop hu)⟩
  obtain ⟨k1, k2⟩ := heap_set hH ha hm hturn hnew
  unfold Oper.wp
  rw [hrun]
  exact ⟨undef, μ, ρ, rfl, R_im.2 trivial, k1, Nms.le.refl _, fun j hj => .inl hj, k2⟩
theorem flat_set {α : Type} {enc : α → List IV} (hk : ∀ x, (enc x).length = 1) {y : α} {s : IV} (hs : enc y = [s]) : ∀ (xs : List α) (o : Nat), ((xs.set o y).flatMap enc) = (xs.flatMap enc).set o s
  | [], o => by simp
  | z :: zs, o => by
    have hz := hk z
    match hez : enc z, hz with
    | [c], _ =>
      cases o with
      | zero => simp [hez, hs]
      | succ o => simp [hez, flat_set hk hs zs o]
theorem IVs_set {μ : Mem} {s : IV} {v : Value} (h1 : s.p μ v) : ∀ {l : List IV} {vs : List Value}, IVs μ l vs → ∀ (j : Nat), IVs μ (l.set j s) (vs.set j v)
  | [], _, h, j => by cases h; simp [IVs]
  | s0 :: l, _, ⟨u, vs', e, hu, h2⟩, 0 => by subst e; exact ⟨v, vs', rfl, h1, h2⟩
  | s0 :: l, _, ⟨u, vs', e, hu, h2⟩, j + 1 => by subst e; exact ⟨u, _, rfl, hu, IVs_set h1 h2 j⟩
def OneI (s : IV) : Prop := ∀ μ v, s.p μ v → v.oneCell' = true
theorem oc_val {u : Value} (h : u.oneCell' = true) : OneI (IV.val u) := fun _ v hv => by rw [show v = u from hv]; exact h
theorem oc_view {α : Type} {k : Nat} {enc : α → List IV} {xs : List α} : OneI (IV.view k enc xs) := fun _ v hv => by obtain ⟨A, c, rfl, _⟩ := hv; rfl
theorem oc_ptr {l : List IV} : OneI (IV.ptr l) := fun _ v hv => by obtain ⟨b, o, rfl, _⟩ := hv; rfl
theorem ope_storeRow {α : Type} {t rt : TypeId} {x y : Operand} {dt : TyInf} {i o : Nat} {enc : α → List IV} {xs : List α} {z : α} {s : IV} (ht : C.tt t = some dt) (hn : Nat.beq 1 dt.size = true) (hx : Ev σ x (.off i o)) (hy : Ev σ y (.im s)) (hc : OneI s) (hh : hget H i = some (.row rt 1 enc xs)) (hs : enc z = [s]) (hle : o < xs.length) :
    OpE C ⟨none, .store t x y, ty, pos, after, gu⟩ σ H fr (.im IV.any) (hset H i (.row rt 1 enc (xs.set o z))) fr := fun ρ μ a w hl ha hH _ => by
  have h0 := hx.at hl (by simp [Op.operands])
  unfold SV.R at h0
  obtain ⟨g, h1, h2⟩ := h0
  have hm := hget_mem hh
  obtain ⟨v, us, h3, h4, h5, h6, h7, h8⟩ := hH.1 _ hm
  have hebg : eb ρ (i, HObj.row rt 1 enc xs) = v.ownBlock := by simp only [eb, h3, Option.bind_some]; exact ownsRow_blk h4
  rw [h3] at h1
  simp only [Option.bind_some] at h1
  rw [ownsRow_blk h4] at h1
  have h9 := hy.im hl (by simp [Op.operands])
  have hone := hc _ _ h9
  have hcells : (a.eval y).cells = #[a.eval y] := by
    revert hone
    cases a.eval y <;> intro hone <;> first | rfl | cases hone
  rcases h4.2 with ⟨hv0, _⟩ | ⟨g', cap, cur, hv', _, hg', hnc, hcm, hcs, htake⟩
  · rw [hv0] at h1; cases h1
  · subst hv'
    simp only [Value.ownBlock, Option.some.injEq] at h1
    subst h1
    have hlt : o < cur.size := by omega
    have hcell : w.cell? ⟨g', o, none⟩ = some cur[o] := by simp [World.cell?, hg', hlt]
    have hfro : w.frozen? ⟨g', o, none⟩ = false := by simp [World.frozen?, hg']
    have hadd : (⟨g', o, none⟩ : Addr).add 0 = ⟨g', o, none⟩ := by simp [Addr.add]
    have hst := run_store C.P w ⟨g', o, none⟩ (a.eval y) .plain hone
    rw [hcell] at hst
    simp only [hfro, Bool.false_eq_true, if_false] at hst
    have hrun : (execOp a.eval ⟨none, .store t x y, ty, pos, after, gu⟩).run C.P w = .ok .skip (w.setCell ⟨g', o, none⟩ (a.eval y)) := by
      simp only [execOp, Instr.storeAt, h2, Instr.sureAddr, Sem.run_bind, Sem.run_pure, Result.andThen_ok, storeVar, (C.ok _ _ ht).size w, hcells, ← Nat.eq_of_beq_eq_true hn]
      simp [storeCells, hadd, hst]
    have hst2 := World.ownsRow.stored h4 o (a.eval y)
    have hturn : Turned w (w.setCell ⟨g', o, none⟩ (a.eval y)) (eb ρ (i, HObj.row rt 1 enc xs)) := by
      rw [hebg]
      exact ⟨hst2.2.os, hst2.2.tape, hst2.2.output, hst2.2.size, hst2.2.block⟩
    have hnew : EntOk ρ μ (w.setCell ⟨g', o, none⟩ (a.eval y)) (i, HObj.row rt 1 enc (xs.set o z)) :=
      ⟨_, us.set o (a.eval y), h3, by rw [List.length_set]; exact hst2.1, by unfold IvFlat; rw [flat_set h6 hs]; exact IVs_set h9 h5 o, h6, h7, fun u hu => by
        rcases List.mem_or_eq_of_mem_set hu with hu | hu
        · exact h8 u hu
        · subst hu; exact hone⟩
    obtain ⟨k1, k2⟩ := heap_set hH ha hm hturn hnew
    unfold Oper.wp
    rw [hrun]
    exact ⟨undef, μ, ρ, rfl, R_im.2 trivial, k1, Nms.le.refl _, fun j hj => .inl hj, k2⟩

/- new blocks of the call's own -/
theorem zeroS_one {u : Value} (h : oneB u.cells.toList = true) : One u.cells.toList := oneB_one h
theorem opa_alloc {t : TypeId} {dt : TyInf} (ht : C.tt t = some dt) (h1 : oneB dt.zero.cells.toList = true) : OpA C ⟨d, .alloc t, ty, pos, after, gu⟩ σ fr (.off fr 0) (.blk t (zeroS dt.zero)) := fun ρ μ a w hl ha hf => by
  have hT := C.ok _ _ ht
  have hrun : (execOp a.eval ⟨d, .alloc t, ty, pos, after, gu⟩).run C.P w = .ok (.value (.pointer (some ⟨w.heap.size, 0, none⟩))) (w.alloc (.cells dt.zero.cells t)) := by
    simp only [execOp, Instr.alloc, Sem.run_bind, hT.zero w, Result.andThen_ok, run_newVar, Sem.run_pure]
  have hno : μ w.heap.size = none := by
    cases e : μ w.heap.size with
    | none => rfl
    | some c => exact absurd (ha.lt (b := w.heap.size) (by rw [e]; simp)) (Nat.lt_irrefl _)
  unfold Oper.wp
  rw [hrun]
  refine ⟨_, μ, rfl, ?_, ⟨w.heap.size, _, upd_at _ _ _, heap_alloc_new w _, zeroS_R _, hno, oneB_one h1⟩, fun g hg => ?_, Stp.alloc ha _⟩
  · unfold SV.R; exact ⟨w.heap.size, by rw [upd_at]; rfl, rfl⟩
  · simp only [blk, Option.some.injEq] at hg; omega
end
end Go.Proofs.Ytjgmbgfcffnanac
