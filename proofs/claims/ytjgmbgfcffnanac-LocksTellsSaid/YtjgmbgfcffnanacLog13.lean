/- More rules: empty literals as rows, nil rows in cells, evidence of arguments that a callee turns. No program. -/
import Derived.Test.YtjgmbgfcffnanacLog12
namespace Go.Proofs.Ytjgmbgfcffnanac
open Go.RowKit

section
variable {C : Cfg} {σ : Env} {H : List Ent} {fr : Nat} {d : Option Tmp} {ty : TypeId} {pos : String} {after : Array Edge} {gu : Option (Nat × Bool)}
theorem opa_slit0 {α : Type} {t et : TypeId} {de : TyInf} {k : Nat} (enc : α → List IV) (hT : slT C t = some (et, de)) (hk : de.size = k) (hkk : ∀ a, (enc a).length = k) : OpA C ⟨d, .buildSlice t 0 #[], ty, pos, after, gu⟩ σ fr (.row fr 0) (.row et k enc []) := fun ρ μ a w hl ha hf => by
  obtain ⟨hu, hTe⟩ := slT_at hT
  subst hk
  have hrun : (execOp a.eval ⟨d, .buildSlice t 0 #[], ty, pos, after, gu⟩).run C.P w = .ok (.value (.slice (some ⟨w.heap.size, 0, none⟩) 0 0)) (w.alloc (.cells #[] et)) := by
    simp only [execOp, Instr.buildSlice, Sem.run_bind, run_underlying hu, Result.andThen_ok, hTe.size w]
    rw [if_neg (by omega)]
    have hr0 : (Array.range 0 : Array Nat) = #[] := by simp
    simp [newRow, newObj, hr0, Instr.fill]
    simp [Sem.run]
  have hs := Stp.alloc (μ := μ) ha (.cells #[] et)
  have hno : μ w.heap.size = none := by
    cases e : μ w.heap.size with
    | none => rfl
    | some c => exact absurd (ha.lt (b := w.heap.size) (by rw [e]; simp)) (Nat.lt_irrefl _)
  unfold Oper.wp
  rw [hrun]
  refine ⟨_, μ, rfl, ?_, ⟨_, [], upd_at _ _ _, ⟨by simp, .inr ⟨w.heap.size, 0, #[], rfl, Nat.zero_le _, heap_alloc_new w _, Nat.le_refl _, by simp [maxLen], by simp, by simp⟩⟩, rfl, hkk, fun g hg => ?_, fun u hu => by cases hu⟩, fun g hg => ?_, hs⟩
  · unfold SV.R; exact ⟨upd_at _ _ _, _, 0, rfl, .inl rfl⟩
  · simp only [Value.ownBlock, Option.some.injEq] at hg; subst hg; exact hno
  · simp only [blk, Option.some.injEq] at hg; omega

theorem opn_pick_andP {c x y : Go.Operand} {b b' : Bool} (hc : Ev σ c (.im (IV.bool b))) (hx : Ev σ x (.im (IV.bool b'))) (hy : Ev σ y (.im (IV.bool false))) : OpN C ⟨d, .pick c x y, ty, pos, after, gu⟩ σ (.im (IV.bool (b && b'))) := OpN.pure fun ρ μ a w hl ha => by
  have h1 := hc.val hl (by simp [Op.operands])
  have h2 := hx.val hl (by simp [Op.operands])
  have h3 := hy.val hl (by simp [Op.operands])
  refine ⟨_, by simp [execOp, h1, asBool]; rfl, R_im.2 ?_⟩
  cases b with
  | true => exact h2
  | false => exact h3
theorem opn_pick_orP {c x y : Go.Operand} {b b' : Bool} (hc : Ev σ c (.im (IV.bool b))) (hx : Ev σ x (.im (IV.bool true))) (hy : Ev σ y (.im (IV.bool b'))) : OpN C ⟨d, .pick c x y, ty, pos, after, gu⟩ σ (.im (IV.bool (b || b'))) := OpN.pure fun ρ μ a w hl ha => by
  have h1 := hc.val hl (by simp [Op.operands])
  have h2 := hx.val hl (by simp [Op.operands])
  have h3 := hy.val hl (by simp [Op.operands])
  refine ⟨_, by simp [execOp, h1, asBool]; rfl, R_im.2 ?_⟩
  cases b with
  | true => exact h2
  | false => exact h3
/- rows of elements of more than one cell -/
theorem flatK_at {α : Type} {enc : α → List IV} {k : Nat} (hk : ∀ x, (enc x).length = k) : ∀ {xs : List α} {m : Nat} {y : α}, xs[m]? = some y → ((xs.flatMap enc).drop (m * k)).take k = enc y ∧ m * k + k ≤ (xs.flatMap enc).length
  | [], m, y, h => by simp at h
  | z :: zs, m, y, h => by
    have hz := hk z
    rw [List.flatMap_cons]
    cases m with
    | zero =>
      simp at h; subst h
      rw [Nat.zero_mul, List.drop_zero, List.take_left' hz]
      exact ⟨rfl, by rw [List.length_append]; omega⟩
    | succ m =>
      obtain ⟨h1, h2⟩ := flatK_at hk (xs := zs) (m := m) (y := y) (by simpa using h)
      have h3 : (m + 1) * k = k + m * k := by rw [Nat.add_mul]; omega
      rw [h3, ← List.drop_drop, List.drop_left' hz]
      exact ⟨h1, by rw [List.length_append]; omega⟩
theorem IVs_drop {μ : Mem} {l : List IV} {vs : List Value} (n : Nat) (h : IVs μ l vs) : IVs μ (l.drop n) (vs.drop n) := by
  have h1 := Rs_drop (ρ := fun _ => none) n (SV.Rs.im.2 h)
  rw [← List.map_drop] at h1
  exact SV.Rs.im.1 h1
theorem IVs_take {μ : Mem} {l : List IV} {vs : List Value} (n : Nat) (h : IVs μ l vs) : IVs μ (l.take n) (vs.take n) := by
  have h1 := Rs_take (ρ := fun _ => none) n (SV.Rs.im.2 h)
  rw [← List.map_take] at h1
  exact SV.Rs.im.1 h1
/- a row's block -/
theorem row_block {α : Type} {ρ : Nms} {μ : Mem} {w : World} {i t k : Nat} {enc : α → List IV} {xs : List α} {g : Nat} (h : EntOk ρ μ w (i, .row t k enc xs)) (hg : (ρ i).bind blk = some g) :
    ∃ v us cap cur, ρ i = some v ∧ v = .slice (some ⟨g, 0, none⟩) xs.length cap ∧ w.ownsRow 0 t k v xs.length us ∧ w.heap[g]? = some (.cells cur t (0, 0)) ∧ xs.length ≤ cap ∧ cap ≤ maxLen ∧ cur.size = cap * k ∧ cur.toList.take (xs.length * k) = us ∧ IVs μ (xs.flatMap enc) us ∧ (∀ x, (enc x).length = k) ∧ (∀ g, v.ownBlock = some g → μ g = none) ∧ One us := by
  obtain ⟨v, us, h3, h4, h5, h6, h7, h8⟩ := h
  rw [h3] at hg
  simp only [Option.bind_some] at hg
  rw [ownsRow_blk h4] at hg
  rcases h4.2 with ⟨hv0, _⟩ | ⟨g', cap, cur, hv', _, hg', hnc, hcm, hcs, htake⟩
  · rw [hv0] at hg; cases hg
  · have hg2 := hg
    rw [hv'] at hg2
    simp only [Value.ownBlock, Option.some.injEq] at hg2
    subst hg2
    exact ⟨v, us, cap, cur, h3, hv', h4, hg', hnc, hcm, hcs, htake, h5, h6, h7, h8⟩
theorem opr_loadK {α : Type} {t rt : TypeId} {x : Go.Operand} {dt : TyInf} {i m o k : Nat} {enc : α → List IV} {xs : List α} {y : α} {s : SV} (ht : C.tt t = some dt) (hx : Ev σ x (.off i (m * k + o))) (hh : hget H i = some (.row rt k enc xs)) (hy : xs[m]? = some y) (hs : ldS dt (((enc y).map SV.im).drop o) = some s) :
    OpR C ⟨d, .load t x, ty, pos, after, gu⟩ σ H s := OpR.read fun ρ μ a w hl ha hH => by
  have h0 := hx.at hl (by simp [Op.operands])
  unfold SV.R at h0
  obtain ⟨g, h1, h2⟩ := h0
  obtain ⟨v, us, cap, cur, _, _, _, h4, h5, _, h6, h7, h8, h9, _, h10⟩ := row_block (hH.1 _ (hget_mem hh)) h1
  obtain ⟨f1, f2⟩ := flatK_at h9 hy
  have hlu := h8.length
  have hml : m < xs.length := (List.getElem?_eq_some_iff.1 hy).1
  -- the element's own cells
  have hel : SV.Rs ρ μ ((enc y).map SV.im) ((us.drop (m * k)).take k) := by
    rw [← f1]; exact SV.Rs.im.2 (IVs_take k (IVs_drop (m * k) h8))
  have hcell : ∀ j v, ((us.drop (m * k)).take k)[j]? = some v → w.cell? ⟨g, m * k + j, none⟩ = some v := fun j v hj => by
    rw [List.getElem?_take] at hj
    split at hj
    · rw [List.getElem?_drop, ← h7, List.getElem?_take] at hj
      split at hj
      · simp only [World.cell?, h4]; simpa using hj
      · cases hj
    · cases hj
  have hone : One ((us.drop (m * k)).take k) := fun u hu => h10 u (List.mem_of_mem_drop (List.mem_of_mem_take hu))
  have hd := Rs_drop o hel
  have hT := C.ok _ _ ht
  have key : ∃ v, (Instr.loadAt t (.pointer (some ⟨g, m * k + o, none⟩))).run C.P w = .ok v w ∧ SV.R ρ μ s v := by
    unfold ldS at hs
    cases hag : aggB dt.und with
    | true =>
      rw [hag] at hs
      simp only at hs
      cases hb : Nat.ble dt.size (((enc y).map SV.im).drop o).length with
      | false => rw [hb] at hs; cases hs
      | true =>
        rw [hb] at hs
        injection hs with hs
        subst hs
        have hle := Nat.le_of_ble_eq_true hb
        have hl2 := hd.length
        have h3 := run_loadCells_list (P := C.P) w ⟨g, m * k + o, none⟩ ((((us.drop (m * k)).take k).drop o).take dt.size) (fun j v hj => by
          rw [List.getElem?_take] at hj
          split at hj
          · rw [List.getElem?_drop] at hj
            have := hcell _ v hj
            rw [← Nat.add_assoc] at this
            by_cases h0 : j = 0 <;> simp [Addr.add, h0] <;> simpa [h0] using this
          · cases hj)
        rw [List.length_take, Nat.min_eq_left (by rw [hl2]; exact hle)] at h3
        refine ⟨.agg ((((us.drop (m * k)).take k).drop o).take dt.size).toArray, ?_, ?_⟩
        · simp only [Instr.loadAt, Instr.sureAddr, loadVar, Sem.run_bind, Sem.run_pure, Result.andThen_ok, hT.agg w, hag, if_true, hT.size w, h3]
        · unfold SV.R
          exact ⟨_, rfl, Rs_take _ hd, fun u hu => hone u (List.mem_of_mem_drop (List.mem_of_mem_take hu))⟩
    | false =>
      rw [hag] at hs
      simp only at hs
      cases hl : ((enc y).map SV.im).drop o with
      | nil => rw [hl] at hs; cases hs
      | cons s0 l =>
        rw [hl] at hs hd
        injection hs with hs
        subst hs
        obtain ⟨v, h2, h3⟩ := hd.get (j := 0) rfl
        rw [List.getElem?_drop] at h2
        have h4 := hcell _ v h2
        refine ⟨v, ?_, h3⟩
        simp only [Instr.loadAt, Instr.sureAddr, loadVar, Sem.run_bind, Sem.run_pure, Result.andThen_ok, hT.agg w, hag, if_false, Bool.false_eq_true, run_load]
        rw [show (o + 0) = o from rfl] at h4
        rw [h4]
  obtain ⟨v, h11, h12⟩ := key
  refine ⟨v, ?_, h12⟩
  simp only [execOp, Sem.run_bind, h2, h11, Result.andThen_ok, Sem.run_pure]
theorem opr_loadK0 {α : Type} {t rt : TypeId} {x : Go.Operand} {dt : TyInf} {i m k : Nat} {enc : α → List IV} {xs : List α} {y : α} {s : SV} (ht : C.tt t = some dt) (hx : Ev σ x (.off i (m * k))) (hh : hget H i = some (.row rt k enc xs)) (hy : xs[m]? = some y) (hs : ldS dt ((enc y).map SV.im) = some s) :
    OpR C ⟨d, .load t x, ty, pos, after, gu⟩ σ H s := opr_loadK (o := 0) ht hx hh hy hs
theorem opn_conv {src dst : TypeId} {x : Go.Operand} {q k : IntKind} {n m : Int} (hs : (C.P.underlying src).isSome = true) (hd : C.P.underlying dst = some (.int (C.P.intKind dst))) (hk : C.P.intKind dst = k) (hm : k.wrap n = m) (hx : Ev σ x (.im (IV.val (.int q n)))) : OpN C ⟨d, .convert src dst x, ty, pos, after, gu⟩ σ (.im (IV.val (.int k m))) := OpN.pure fun ρ μ a w hl ha => by
  have h1 := hx.val hl (by simp [Op.operands])
  refine ⟨_, ?_, R_im.2 rfl⟩
  simp only [execOp, h1, Sem.run_bind, run_convert_int w src dst q n hs hd, Result.andThen_ok, Sem.run_pure, hk, hm]
theorem opn_pick_no {c x y : Go.Operand} {s : SV} (hc : Ev σ c (.im (IV.bool false))) (hy : Ev σ y s) : OpN C ⟨d, .pick c x y, ty, pos, after, gu⟩ σ s := OpN.pure fun ρ μ a w hl ha => by
  have h1 := hc.val hl (by simp [Op.operands])
  have h3 := hy.at hl (by simp [Op.operands])
  exact ⟨a.eval y, by simp [execOp, h1, asBool], h3⟩
theorem flat_setK {α : Type} {enc : α → List IV} {k : Nat} (hk : ∀ x, (enc x).length = k) (z : α) : ∀ {xs : List α} {m : Nat}, m < xs.length → (xs.set m z).flatMap enc = (xs.flatMap enc).take (m * k) ++ enc z ++ (xs.flatMap enc).drop (m * k + k)
  | [], m, h => by simp at h
  | y :: ys, m, h => by
    have hy := hk y
    cases m with
    | zero => simp only [List.set_cons_zero, List.flatMap_cons, Nat.zero_mul, List.take_zero, List.nil_append, Nat.zero_add]; rw [List.drop_left' hy]
    | succ m =>
      have h1 := flat_setK hk z (xs := ys) (m := m) (by simpa using h)
      simp only [List.set_cons_succ, List.flatMap_cons]
      have h3 : (m + 1) * k = k + m * k := by rw [Nat.add_mul]; omega
      rw [h1, h3, ← hy, List.take_length_add_append, show (enc y).length + m * (enc y).length + (enc y).length = (enc y).length + (m * (enc y).length + (enc y).length) by omega, List.drop_length_add_append]
      simp
theorem take_splice {β : Type} {a b v : List β} {p : Nat} (h : p + v.length ≤ a.length) : ((a ++ b).take p ++ v ++ (a ++ b).drop (p + v.length)).take a.length = a.take p ++ v ++ a.drop (p + v.length) := by
  have h1 : (a ++ b).take p = a.take p := List.take_append_of_le_length (by omega)
  have h2 : (a ++ b).drop (p + v.length) = a.drop (p + v.length) ++ b := List.drop_append_of_le_length h
  rw [h1, h2, ← List.append_assoc (a.take p ++ v)]
  refine List.take_left' ?_
  simp only [List.length_append, List.length_take, List.length_drop]; omega
theorem ope_storeK {α : Type} {t rt : TypeId} {x y : Go.Operand} {dt : TyInf} {i m o k : Nat} {enc : α → List IV} {xs : List α} {u : α} {l : List IV} {s : SV} (z : α) (ht : C.tt t = some dt) (hx : Ev σ x (.off i (m * k + o))) (hy : Ev σ y s) (hc : Cs s (l.map SV.im)) (hn : Nat.beq l.length dt.size = true) (hh : hget H i = some (.row rt k enc xs)) (hu : xs[m]? = some u)
    (hz : enc z = (enc u).take o ++ l ++ (enc u).drop (o + l.length)) (hol : o + l.length ≤ (enc u).length) :
    OpE C ⟨none, .store t x y, ty, pos, after, gu⟩ σ H fr (.im IV.any) (hset H i (.row rt k enc (xs.set m z))) fr := fun ρ μ a w hl ha hH _ => by
  have h0 := hx.at hl (by simp [Op.operands])
  unfold SV.R at h0
  obtain ⟨g, h1, h2⟩ := h0
  have hm := hget_mem hh
  obtain ⟨v, us, cap, cur, e3, ev, own, h4, h5, hcm, h6, h7, h8, h9, hμ, h10⟩ := row_block (hH.1 _ hm) h1
  have hebg : eb ρ (i, HObj.row rt k enc xs) = some g := h1
  obtain ⟨h11, h12⟩ := hc ρ μ _ (hy.at hl (by simp [Op.operands]))
  have h11 := SV.Rs.im.1 h11
  have hlen : (a.eval y).cells.toList.length = l.length := h11.length
  obtain ⟨f1, f2⟩ := flatK_at h9 hu
  have hml : m < xs.length := (List.getElem?_eq_some_iff.1 hu).1
  have hlu := h8.length
  have hku : (enc u).length = k := h9 u
  have hmk : m * k + k ≤ xs.length * k := by rw [← Nat.succ_mul]; exact Nat.mul_le_mul_right _ hml
  have hxk : xs.length * k ≤ cap * k := Nat.mul_le_mul_right _ h5
  have hsz : (a.eval y).cells.size = dt.size := by rw [← Nat.eq_of_beq_eq_true hn, ← hlen]; simp
  have hst := run_storeCells_at (P := C.P) g (m * k + o) rt (a.eval y).cells.toList 0 cur w h4 (by simp only [Nat.add_zero, hlen]; omega) h12
  simp only [Nat.add_zero] at hst
  have hrun : (execOp a.eval ⟨none, .store t x y, ty, pos, after, gu⟩).run C.P w = .ok .skip (w.setRow g (cur.toList.take (m * k + o) ++ (a.eval y).cells.toList ++ cur.toList.drop (m * k + o + (a.eval y).cells.toList.length)).toArray) := by
    simp only [execOp, Instr.storeAt, h2, Instr.sureAddr, Sem.run_bind, Sem.run_pure, Result.andThen_ok, storeVar, (C.ok _ _ ht).size w, hsz, ne_eq, not_true_eq_false, if_false]
    rw [hst]
    rfl
  have hturn : Turned w (w.setRow g (cur.toList.take (m * k + o) ++ (a.eval y).cells.toList ++ cur.toList.drop (m * k + o + (a.eval y).cells.toList.length)).toArray) (eb ρ (i, HObj.row rt k enc xs)) := by
    rw [hebg]
    exact ⟨rfl, rfl, rfl, by simp, fun k _ hk => setRow_other w g k _ (fun e => hk (by rw [e]))⟩
  have hcl : cur.toList.length = cap * k := by simpa using h6
  have hnl : (cur.toList.take (m * k + o) ++ (a.eval y).cells.toList ++ cur.toList.drop (m * k + o + (a.eval y).cells.toList.length)).length = cap * k := by
    simp only [List.length_append, List.length_take, List.length_drop, hcl, hlen]; omega
  have hus : us.length = xs.length * k := by rw [← h7, List.length_take, hcl]; omega
  have htk : (cur.toList.take (m * k + o) ++ (a.eval y).cells.toList ++ cur.toList.drop (m * k + o + (a.eval y).cells.toList.length)).take (xs.length * k) = us.take (m * k + o) ++ (a.eval y).cells.toList ++ us.drop (m * k + o + (a.eval y).cells.toList.length) := by
    have hsp : cur.toList = us ++ cur.toList.drop (xs.length * k) := by rw [← h7, List.take_append_drop]
    have hb : m * k + o + (a.eval y).cells.toList.length ≤ us.length := by rw [hus, hlen]; omega
    have := take_splice (b := cur.toList.drop (xs.length * k)) hb
    rw [← hsp, hus] at this
    exact this
  have hnew : EntOk ρ μ (w.setRow g (cur.toList.take (m * k + o) ++ (a.eval y).cells.toList ++ cur.toList.drop (m * k + o + (a.eval y).cells.toList.length)).toArray) (i, HObj.row rt k enc (xs.set m z)) := by
    refine ⟨v, us.take (m * k + o) ++ (a.eval y).cells.toList ++ us.drop (m * k + o + (a.eval y).cells.toList.length), e3, ⟨?_, .inr ⟨g, cap, _, by rw [List.length_set]; exact ev, Nat.zero_le _, setRow_heap w g cur _ rt _ h4, by rw [List.length_set]; exact h5, hcm, by simpa using hnl, ?_⟩⟩, ?_, h9, hμ, fun q hq => ?_⟩
    · simp only [List.length_append, List.length_take, List.length_drop, hus, hlen, List.length_set]; omega
    · rw [List.length_set]; simpa using htk
    · unfold IvFlat
      rw [flat_setK h9 z hml, hz]
      have hF : (xs.flatMap enc).length = xs.length * k := by rw [← hus, hlu]
      have q2 : (xs.flatMap enc).take (m * k) ++ ((enc u).take o ++ l ++ (enc u).drop (o + l.length)) ++ (xs.flatMap enc).drop (m * k + k) = (xs.flatMap enc).take (m * k + o) ++ l ++ (xs.flatMap enc).drop (m * k + o + l.length) := by
        have r1 : (xs.flatMap enc).take (m * k + o) = (xs.flatMap enc).take (m * k) ++ (enc u).take o := by
          rw [← f1, List.take_take, Nat.min_eq_left (by omega), List.take_add]
        have r2 : (xs.flatMap enc).drop (m * k + o + l.length) = (enc u).drop (o + l.length) ++ (xs.flatMap enc).drop (m * k + k) := by
          have r3 : (xs.flatMap enc).drop (m * k) = enc u ++ (xs.flatMap enc).drop (m * k + k) := by
            rw [← f1, ← List.drop_drop, List.take_append_drop]
          rw [show m * k + o + l.length = m * k + (o + l.length) by omega, ← List.drop_drop, r3, List.drop_append_of_le_length (by omega)]
        rw [r1, r2]
        simp only [List.append_assoc]
      rw [q2]
      exact ((IVs_take _ h8).append h11).append (by rw [← hlen]; exact IVs_drop _ h8)
    · simp only [List.mem_append] at hq
      rcases hq with (hq | hq) | hq
      · exact h10 q (List.mem_of_mem_take hq)
      · exact h12 q hq
      · exact h10 q (List.mem_of_mem_drop hq)
  obtain ⟨k1, k2⟩ := heap_set hH ha hm hturn hnew
  unfold Oper.wp
  rw [hrun]
  exact ⟨undef, μ, ρ, rfl, R_im.2 trivial, k1, Nms.le.refl _, fun j hj => .inl hj, k2⟩
theorem ope_storeK0 {α : Type} {t rt : TypeId} {x y : Go.Operand} {dt : TyInf} {i m k : Nat} {enc : α → List IV} {xs : List α} {u : α} {s : SV} (z : α) (ht : C.tt t = some dt) (hx : Ev σ x (.off i (m * k))) (hy : Ev σ y s) (hc : Cs s ((enc z).map SV.im)) (hn : Nat.beq (enc z).length dt.size = true) (hh : hget H i = some (.row rt k enc xs)) (hu : xs[m]? = some u)
    (hk : (enc z).length = (enc u).length) :
    OpE C ⟨none, .store t x y, ty, pos, after, gu⟩ σ H fr (.im IV.any) (hset H i (.row rt k enc (xs.set m z))) fr :=
  ope_storeK (o := 0) (l := enc z) z ht hx hy hc hn hh hu (by simp [hk]) (by simp [hk])
/- what an operation makes turns no more -/
theorem OpE.frz {α : Type} {o : Oper} {i n t k fr' : Nat} {enc : α → List IV} {xs : List α} {H1 : List Ent} (h : OpE C o σ H fr (.row i n) H1 fr') (hh : hget H1 i = some (.row t k enc xs)) : OpE C o σ H fr (.im (IV.view k enc xs)) (hdel H1 i) fr' := fun ρ μ a w hl ha hH hfree => by
  refine Oper.wp_mono ?_ (h ρ μ a w hl ha hH hfree)
  rintro a' w' ⟨v, μ', ρ', rfl, h1, h2, h3, h4, h5⟩
  unfold SV.R at h1
  have hm := hget_mem hh
  have hent := h2.1 _ hm
  rcases row_view hent with ⟨u, k1, k2, k3⟩ | ⟨u, g, cs, k1, k2, k3, k4⟩
  · rw [h1.1] at k1
    injection k1 with k1
    subst k1
    exact ⟨v, μ', ρ', rfl, R_im.2 (k3 μ'), h2.sub fun e he => (hdel_mem he).1, h3, h4, ⟨h5.os, h5.tape, h5.output, h5.size, h5.block, h5.le, h5.new, h5.agr, fun e he => h5.own e (hdel_mem he).1⟩⟩
  · rw [h1.1] at k1
    injection k1 with k1
    subst k1
    have h0 := (hent.lt k2).2
    have hle : Mem.le μ' (μ'.add g cs) := fun b c hb => by
      unfold Mem.add
      by_cases e : b = g
      · subst e; rw [h0] at hb; cases hb
      · rw [if_neg e]; exact hb
    refine ⟨v, μ'.add g cs, ρ', rfl, R_im.2 (k4 hle), ⟨fun e he => ?_, fun e he e' he' => h2.2 e (hdel_mem he).1 e' (hdel_mem he').1⟩, h3, h4, ⟨h5.os, h5.tape, h5.output, h5.size, h5.block, h5.le.trans hle, fun b hb => ?_, fun b c hb => ?_, fun e he => h5.own e (hdel_mem he).1⟩⟩
    · obtain ⟨q1, q2⟩ := hdel_mem he
      refine (h2.1 e q1).keep (Nms.le.refl _) hle fun b hb => ⟨rfl, ?_⟩
      unfold Mem.add
      rw [if_neg (fun e2 => h2.2 _ hm e q1 (fun e3 => q2 e3.symm) g k2 (by rw [← e2]; exact hb))]
      exact ((h2.1 e q1).lt hb).2
    · unfold Mem.add at hb
      by_cases e : b = g
      · subst e
        rcases h5.own _ hm b k2 with q | q
        · exact .inr (.inr q)
        · exact .inr (.inl q)
      · rw [if_neg e] at hb; exact h5.new b hb
    · unfold Mem.add at hb
      by_cases e : b = g
      · rw [if_pos e] at hb; injection hb with hb; subst hb; subst e; exact ⟨t, (0, 0), k3⟩
      · rw [if_neg e] at hb; exact h5.agr b c hb
theorem EvsS.im {f : Nat → Nat} {x : Go.Operand} {s : IV} {xs : List Go.Operand} {l : List SV} (h : Ev σ x (.im s)) (t : EvsS σ f xs l) : EvsS σ f (x :: xs) (.im s :: l) := .cons h t
theorem EvsS.row {f : Nat → Nat} {x : Go.Operand} {i j n : Nat} {xs : List Go.Operand} {l : List SV} (h : Ev σ x (.row j n)) (hf : f i = j) (t : EvsS σ f xs l) : EvsS σ f (x :: xs) (.row i n :: l) := .cons (by simp only [SV.rn]; rw [hf]; exact h) t
theorem EvsS.off {f : Nat → Nat} {x : Go.Operand} {i j n : Nat} {xs : List Go.Operand} {l : List SV} (h : Ev σ x (.off j n)) (hf : f i = j) (t : EvsS σ f xs l) : EvsS σ f (x :: xs) (.off i n :: l) := .cons (by simp only [SV.rn]; rw [hf]; exact h) t
end
section
variable {F : Fx} {nt : Nat} {x : St} {σ σ' : Env} {H H' : List Ent} {fr fr' : Nat}
/- nil in a cell, as a row of the call's own -/
theorem Shift.row0In {α : Type} (p j et k : Nat) (enc : α → List IV) (hk : ∀ x, (enc x).length = k) {bt : TypeId} {cs : List SV} (hp : hget H p = some (.blk bt cs)) (hj : cs[j]? = some (.im (IV.val (.slice none 0 0)))) (hlt : Nat.beq fr p = false) :
    Shift F nt ⟨σ, H, fr⟩ ⟨σ, hset ((fr, .row et k enc []) :: H) p (.blk bt (cs.set j (.row fr 0))), fr + 1⟩ := fun μ ρ a w hi => by
  have h2 := hi.new1 (v := .slice none 0 0) (ob := .row et k enc []) (Stp.refl hi.agr) ⟨_, [], upd_at _ _ _, World.ownsRow_nil _ _ _ _, rfl, hk, ⟨(fun g hg => by cases hg), (fun u hu => by cases hu)⟩⟩ (fun g hg => by cases hg)
  have hm : (p, HObj.blk bt cs) ∈ (fr, HObj.row et k enc []) :: H := List.mem_cons_of_mem _ (hget_mem hp)
  have h3 : EntOk (upd ρ fr (.slice none 0 0)) μ w (p, .blk bt (cs.set j (.row fr 0))) := by
    obtain ⟨g, us, k1, k2, k3, k4, k5⟩ := h2.heap.1 _ hm
    refine ⟨g, us, k1, k2, ?_, k4, k5⟩
    obtain ⟨v, k6, k7⟩ := k3.get hj
    have k7 : v = .slice none 0 0 := R_im.1 k7
    subst k7
    have k8 := k3.set (s := .row fr 0) (v := .slice none 0 0) (by unfold SV.R; exact ⟨upd_at _ _ _, none, 0, rfl, .inl rfl⟩) j
    have : us.toList.set j (.slice none 0 0) = us.toList := by
      apply List.ext_getElem?
      intro q
      rw [List.getElem?_set]
      split
      · rename_i e; subst e; split
        · rw [k6]
        · rename_i hlt; rw [List.getElem?_eq_none (by omega)]
      · rfl
    rwa [this] at k8
  obtain ⟨h4, _⟩ := heap_set h2.heap h2.agr hm ⟨rfl, rfl, rfl, Nat.le_refl _, fun _ _ _ => rfl⟩ h3
  refine ⟨μ, _, h2.size, h2.defers, h2.env, h2.agr, h4, h2.nms, h2.os, h2.tape, h2.output, h2.hsize, h2.block, h2.le, h2.new, fun e he g hg => ?_⟩
  rcases hset_mem he with rfl | ⟨h5, _⟩
  · exact h2.own _ hm g hg
  · exact h2.own e h5 g hg
end
theorem len1 {α : Type} {l : List α} (h : l.length = 1) : ∃ a, l = [a] := by
  match l, h with
  | [a], _ => exact ⟨a, rfl⟩
theorem len2 {α : Type} {l : List α} (h : l.length = 2) : ∃ a b, l = [a, b] := by
  match l, h with
  | [a, b], _ => exact ⟨a, b, rfl⟩
theorem len3 {α : Type} {l : List α} (h : l.length = 3) : ∃ a b c, l = [a, b, c] := by
  match l, h with
  | [a, b, c], _ => exact ⟨a, b, c, rfl⟩
theorem len4 {α : Type} {l : List α} (h : l.length = 4) : ∃ a b c d, l = [a, b, c, d] := by
  match l, h with
  | [a, b, c, d], _ => exact ⟨a, b, c, d, rfl⟩
end Go.Proofs.Ytjgmbgfcffnanac
