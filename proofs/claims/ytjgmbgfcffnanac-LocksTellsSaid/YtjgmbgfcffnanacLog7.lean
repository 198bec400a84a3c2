/- The logic's rules for slices: append, literals, make, slicing. Over any program. No condition. -/
import Derived.Test.YtjgmbgfcffnanacLog6
namespace Go.Proofs.Ytjgmbgfcffnanac
open Go.RowKit

theorem IVs.append {μ : Mem} : ∀ {l l' : List IV} {vs vs' : List Value}, IVs μ l vs → IVs μ l' vs' → IVs μ (l ++ l') (vs ++ vs')
  | [], _, _, _, h, h' => by cases h; exact h'
  | _ :: _, _, _, _, ⟨v, vs2, e, h1, h2⟩, h' => by subst e; exact ⟨v, _, rfl, h1, IVs.append h2 h'⟩
theorem One.append {a b : List Value} (h : One a) (k : One b) : One (a ++ b) := fun u hu => (List.mem_append.1 hu).elim (h u) (k u)
theorem view_vals {α : Type} {μ : Mem} {w : World} (ha : Agr μ w) {k : Nat} {enc : α → List IV} (hk : ∀ x, (enc x).length = k) {b : Nat} : ∀ {xs : List α} {o : Nat}, (∀ i x, xs[i]? = some x → Cells μ b (o + i * k) (enc x)) →
    ∃ us, IVs μ (xs.flatMap enc) us ∧ One us ∧ us.length = xs.length * k ∧ ∀ j u, us[j]? = some u → w.cell? ⟨b, o + j, none⟩ = some u
  | [], o, _ => ⟨[], rfl, fun u h => by simp at h, by simp, fun j u h => by simp at h⟩
  | x :: xs, o, h => by
    have h0 := h 0 x rfl
    rw [Nat.zero_mul, Nat.add_zero] at h0
    obtain ⟨vs, h1, h2, h3⟩ := h0.vals ha
    obtain ⟨us, h4, h5, h6, h7⟩ := view_vals ha hk (xs := xs) (o := o + k) (fun i y hy => by
      have := h (i + 1) y (by simpa using hy)
      rw [show o + k + i * k = o + (i + 1) * k by rw [Nat.add_mul]; omega]; exact this)
    have hl : vs.length = k := by rw [h1.length, hk]
    refine ⟨vs ++ us, by rw [List.flatMap_cons]; exact h1.append h4, h3.append h5, by rw [List.length_append, hl, h6, List.length_cons, Nat.add_mul]; omega, fun j u hj => ?_⟩
    rcases Nat.lt_or_ge j k with hlt | hge
    · rw [List.getElem?_append_left (by omega)] at hj; exact h2 j u hj
    · rw [List.getElem?_append_right (by omega), hl] at hj
      have := h7 _ u hj
      rw [show o + k + (j - k) = o + j by omega] at this; exact this

theorem run_app_none {P : Program} (w : World) (t ty e : TypeId) (de : TyInf) (ht : P.underlying t = some (.slice e)) (hT : TyIs P e de) (v : Value) (n : Nat) (xs : List Value) (hown : w.ownsRow 0 e de.size v n xs) (c : Nat) :
    (Builtin.append_ #[t, t] ty #[v, .slice none 0 c]).run P w = .ok v w := by
  obtain ⟨_, i, hi, _, hs, _⟩ := hT
  rcases hown.2 with ⟨rfl, rfl⟩ | ⟨g, cap, cur, rfl, _, _, hnc, _⟩
  · simp [Builtin.append_, run_underlying ht, sizeOf, typeInfo, hi, Builtin.lenOf, Builtin.firstCells]
  · simp [Builtin.append_, run_underlying ht, sizeOf, typeInfo, hi, Builtin.lenOf, Builtin.firstCells, hnc, storeCells]
theorem run_app {P : Program} (w : World) (t ty e : TypeId) (de : TyInf) (ht : P.underlying t = some (.slice e)) (hT : TyIs P e de) (hzs : de.zero.cells.size = de.size) (hsz : 0 < de.size) (v : Value) (n : Nat) (xs : List Value) (hown : w.ownsRow 0 e de.size v n xs)
    (A : Option Addr) (m c : Nat) (news : List Value) (hl : news.length = m * de.size) (hA : m = 0 ∨ ∃ ad, A = some ad ∧ ∀ j u, news[j]? = some u → w.cell? (ad.add j) = some u) (h1 : One news) (h63 : n + m ≤ maxLen) (hbytes : (n + m) * de.bytes ≤ 140737488355328) :
    ∃ v' w', (Builtin.append_ #[t, t] ty #[v, .slice A m c]).run P w = .ok v' w' ∧ w'.ownsRow 0 e de.size v' (n + m) (xs ++ news) ∧ w.grownBy w' v.ownBlock ∧ (v'.ownBlock = v.ownBlock ∨ v'.ownBlock = some w.heap.size) := by
  have hT0 := hT
  obtain ⟨_, i, hi, hz, hs, hb⟩ := hT
  by_cases hm : m = 0
  · subst hm
    have hn : news = [] := List.eq_nil_of_length_eq_zero (by simpa using hl)
    subst hn
    cases A with
    | none => exact ⟨v, w, run_app_none w t ty e de ht hT0 v n xs hown c, by simpa using hown, ⟨rfl, rfl, rfl, Nat.le_refl _, fun _ _ _ => rfl⟩, .inl rfl⟩
    | some a =>
      obtain ⟨v', w', hr, h2, h3, _⟩ := run_append_own (P := P) w 0 t ty e i de.zero de.size de.bytes ht hi hz hs hb hzs hsz v n xs hown a 0 c [] hl (fun j u h => by simp at h) h1 h63 hbytes (Nat.zero_le _)
      refine ⟨v', w', hr, h2, h3, .inl ?_⟩
      rcases hown.2 with ⟨rfl, rfl⟩ | ⟨g, cap, cur, rfl, _, hg, hnc, _, hcs, _⟩
      · have : (Builtin.append_ #[t, t] ty #[.slice none 0 0, .slice (some a) 0 c]).run P w = .ok (.slice none 0 0) w := by
          simp [Builtin.append_, run_underlying ht, sizeOf, typeInfo, hi, Builtin.lenOf, Builtin.firstCells, loadCells, loadCellsFrom]
        rw [this] at hr; injection hr with hr; subst hr; rfl
      · have := run_append_room (P := P) w t ty e i ht hi g n cap cur hg a 0 c [] (by simp) (fun j u h => by simp at h) h1 (by omega) (by rw [hcs, hs]; simp only [List.length_nil, Nat.add_zero]; exact Nat.mul_le_mul_right _ hnc)
        rw [this] at hr; injection hr with hr; subst hr; rfl
  · obtain ⟨a, rfl, hnews⟩ := hA.resolve_left hm
    obtain ⟨v', w', hr, h2, h3, _⟩ := run_append_own (P := P) w 0 t ty e i de.zero de.size de.bytes ht hi hz hs hb hzs hsz v n xs hown a m c news hl hnews h1 h63 hbytes (Nat.zero_le _)
    refine ⟨v', w', hr, h2, h3, ?_⟩
    rw [← hb] at hbytes
    have hsmall : n + m ≤ 9223372036854775807 := by simp only [maxLen] at h63; omega
    rcases hown.2 with ⟨rfl, rfl⟩ | ⟨g, cap, cur, rfl, _, hg, hnc, hcm, hcs, htake⟩
    · have := run_append_nil (P := P) w t ty e i de.zero ht hi hz a m c news (by rw [hs]; exact hl) hnews (by omega) (by omega) (by have hb := hbytes; simp only [Nat.zero_add] at hb; omega)
      rw [this] at hr; injection hr with hr; subst hr; exact .inr rfl
    · by_cases hroom : n + m ≤ cap
      · have := run_append_room (P := P) w t ty e i ht hi g n cap cur hg a m c news (by rw [hs]; exact hl) hnews h1 hroom (by rw [hs, hl, hcs, ← Nat.add_mul]; exact Nat.mul_le_mul_right _ hroom)
        rw [this] at hr; injection hr with hr; subst hr; exact .inl rfl
      · have holds : ∀ j u, xs[j]? = some u → w.cell? ((⟨g, 0, none⟩ : Addr).add j) = some u := hown.cells (g := g) rfl
        have := run_append_grow (P := P) w t ty e i de.zero ht hi hz ⟨g, 0, none⟩ n cap xs (by rw [hs]; exact hown.1) holds a m c news (by rw [hs]; exact hl) hnews (by omega) (by omega) (growslice_fits (by omega) hbytes)
        rw [this] at hr; injection hr with hr; subst hr; exact .inr rfl

section
variable {C : Cfg} {σ : Env} {d : Option Tmp} {ty : TypeId} {pos : String} {after : Array Edge} {gu : Option (Nat × Bool)} {H : List Ent} {fr : Nat}

/- what is owned, one entry taken out and a new one put in -/
theorem heap_new {ρ : Nms} {μ : Mem} {w w' : World} {H : List Ent} (hH : HeapOk ρ μ w H) (ha : Agr μ w) {r : Nat} {o ob : HObj} (hm : (r, o) ∈ H) {v' : Value} (h0 : ρ fr = none) (ht : Turned w w' (eb ρ (r, o))) (hv : blk v' = eb ρ (r, o) ∨ ∀ g, blk v' = some g → w.heap.size ≤ g)
    (he : EntOk (upd ρ fr v') μ w' (fr, ob)) : HeapOk (upd ρ fr v') μ w' ((fr, ob) :: hdel H r) ∧ EStp ρ H μ w (upd ρ fr v') ((fr, ob) :: hdel H r) μ w' := by
  have hle := upd_le (v := v') h0
  have hg : ∀ k, eb ρ (r, o) = some k → μ k = none := fun k hk => ((hH.1 _ hm).lt hk).2
  have heb : eb (upd ρ fr v') (fr, ob) = blk v' := by unfold eb; rw [upd_at]; rfl
  have hold : ∀ e ∈ hdel H r, e ∈ H ∧ e.1 ≠ r ∧ eb (upd ρ fr v') e = eb ρ e := fun e h => ⟨(hdel_mem h).1, (hdel_mem h).2, eb_le hle (hH.1 e (hdel_mem h).1).named⟩
  have key : ∀ e ∈ hdel H r, ∀ g, blk v' = some g → eb (upd ρ fr v') e ≠ some g := fun e h g hg2 hg3 => by
    obtain ⟨h1, h2, h3⟩ := hold e h
    rw [h3] at hg3
    rcases hv with hv | hv
    · rw [hv] at hg2; exact hH.2 _ hm e h1 (fun e1 => h2 e1.symm) g hg2 hg3
    · have := hv g hg2; have := ((hH.1 e h1).lt hg3).1; omega
  refine ⟨⟨fun e h => ?_, fun e h e' h' hne g hg1 hg2 => ?_⟩, ⟨ht.os, ht.tape, ht.output, ht.size, fun k hk hno => ht.block k hk (fun e => hno _ hm e.symm), Mem.le.refl _, fun b hb => .inl hb, ha.turned ht hg, fun e h k hk => ?_⟩⟩
  · rcases List.mem_cons.1 h with rfl | h
    · exact he
    · obtain ⟨h1, h2, _⟩ := hold e h
      exact (hH.1 e h1).keep hle (Mem.le.refl _) fun k hk => ⟨ht.block k ((hH.1 e h1).lt hk).1 (fun e1 => hH.2 _ hm _ h1 (fun e2 => h2 e2.symm) k e1.symm hk), ((hH.1 e h1).lt hk).2⟩
  · rcases List.mem_cons.1 h with rfl | h
    · rcases List.mem_cons.1 h' with rfl | h'
      · exact hne rfl
      · rw [heb] at hg1; exact key e' h' g hg1 hg2
    · rcases List.mem_cons.1 h' with rfl | h'
      · rw [heb] at hg2; exact key e h g hg2 hg1
      · obtain ⟨h1, _, h3⟩ := hold e h
        obtain ⟨h1', _, h3'⟩ := hold e' h'
        rw [h3] at hg1
        rw [h3'] at hg2
        exact hH.2 e h1 e' h1' hne g hg1 hg2
  · rcases List.mem_cons.1 h with rfl | h
    · rw [heb] at hk
      rcases hv with hv | hv
      · rw [hv] at hk; exact .inl ⟨_, hm, hk⟩
      · exact .inr (hv k hk)
    · obtain ⟨h1, _, h3⟩ := hold e h
      rw [h3] at hk; exact .inl ⟨e, h1, hk⟩

def slT (C : Cfg) (t : TypeId) : Option (TypeId × TyInf) := match C.tt t with
  | some dt => match dt.und with
    | .slice e => match C.tt e with
      | some de => some (e, de)
      | none => none
    | _ => none
  | none => none
theorem slT_at {t e : TypeId} {de : TyInf} (h : slT C t = some (e, de)) : C.P.underlying t = some (.slice e) ∧ TyIs C.P e de := by
  unfold slT at h
  cases h1 : C.tt t with
  | none => simp [h1] at h
  | some dt =>
    simp only [h1] at h
    have ht := C.ok _ _ h1
    cases h2 : dt.und with
    | slice e' =>
      simp only [h2] at h
      cases h3 : C.tt e' with
      | none => simp [h3] at h
      | some de' =>
        simp only [h3, Option.some.injEq, Prod.mk.injEq] at h
        obtain ⟨rfl, rfl⟩ := h
        exact ⟨by rw [ht.1, h2], C.ok _ _ h3⟩
    | _ => simp [h2] at h
theorem flat_map {α β : Type} {enc : α → List IV} {enc0 : β → List IV} {ys : List α} {ys0 : List β} (h : ys0.map enc0 = ys.map enc) : ys0.flatMap enc0 = ys.flatMap enc := by
  rw [List.flatMap_def, List.flatMap_def, h]
theorem ope_append {α β : Type} {t et : TypeId} {x y : Operand} {de : TyInf} {r n k b : Nat} {enc : α → List IV} {enc0 : β → List IV} {xs : List α} {ys0 : List β} (ys : List α) (hT : slT C t = some (et, de)) (hk : de.size = k) (hz : Nat.beq de.zero.cells.size k = true) (hk0 : Nat.blt 0 k = true) (hby : de.bytes = b)
    (hx : Ev σ x (.row r n)) (hy : Ev σ y (.im (IV.view k enc0 ys0))) (hh : hget H r = some (.row et k enc xs)) (hm : ys0.map enc0 = ys.map enc) (hb : (xs.length + ys.length) * b ≤ 140737488355328) (hb0 : Nat.blt 0 b = true) :
    OpE C ⟨d, .call { callee := .builtin .append, args := #[x, y], argTypes := #[t, t] }, ty, pos, after, gu⟩ σ H fr (.row fr (xs.length + ys.length)) ((fr, .row et k enc (xs ++ ys)) :: hdel H r) (fr + 1) := fun ρ μ a w hl ha hH hfree => by
  have h0 := hx.at hl (by simp [Op.operands, Call.operands])
  unfold SV.R at h0
  obtain ⟨h1, A0, c0, h2, _⟩ := h0
  have hmem := hget_mem hh
  obtain ⟨v, us, h3, h4, h5, h6, h7, h8⟩ := hH.1 _ hmem
  rw [h3] at h1
  injection h1 with h1
  have hebr : eb ρ (r, HObj.row et k enc xs) = v.ownBlock := by simp only [eb, h3, Option.bind_some]; exact ownsRow_blk h4
  obtain ⟨hu, hTe⟩ := slT_at hT
  subst hk hby
  have hlys : ys0.length = ys.length := by have := congrArg List.length hm; simpa using this
  obtain ⟨A, c, h9, hc1, hc2, h10⟩ := hy.im hl (by simp [Op.operands, Call.operands])
  have hkey : ∃ news : List Value, IVs μ (ys.flatMap enc) news ∧ One news ∧ news.length = ys.length * de.size ∧ (ys.length = 0 ∨ ∃ ad, A = some ad ∧ ∀ j u, news[j]? = some u → w.cell? (ad.add j) = some u) := by
    rcases h10 with h10 | ⟨b, o, hA, h10⟩
    · subst h10
      have : ys = [] := List.eq_nil_of_length_eq_zero (by simpa using hlys.symm)
      subst this
      exact ⟨[], rfl, fun u h => by simp at h, by simp, .inl rfl⟩
    · have hmap : ∀ i z, ys[i]? = some z → Cells μ b (o + i * de.size) (enc z) := fun i z hz => by
        have h11 : (ys0.map enc0)[i]? = some (enc z) := by rw [hm, List.getElem?_map, hz]; rfl
        rw [List.getElem?_map, Option.map_eq_some_iff] at h11
        obtain ⟨z0, h12, h13⟩ := h11
        rw [← h13]; exact h10 i z0 h12
      obtain ⟨news, h11, h12, h13, h14⟩ := view_vals ha h6 hmap
      exact ⟨news, h11, h12, h13, .inr ⟨_, hA, fun j u hj => by
        have := h14 j u hj
        by_cases h0 : j = 0 <;> simp [Addr.add, h0] <;> simpa [h0] using this⟩⟩
  obtain ⟨news, h11, h12, h13, h14⟩ := hkey
  have hbb : xs.length + ys.length ≤ 140737488355328 := by
    have h15 : 0 < de.bytes := Nat.blt_eq ▸ hb0
    exact Nat.le_trans (Nat.le_mul_of_pos_right _ h15) hb
  obtain ⟨v', w', hr, h15, h16, h17⟩ := run_app w t ty et de hu hTe (Nat.eq_of_beq_eq_true hz) (Nat.blt_eq ▸ hk0) v xs.length us h4 A ys.length c news h13 h14 h12 (by simp only [maxLen]; omega) hb
  have hfr : ρ fr = none := hfree fr (Nat.le_refl _) (Nat.lt_succ_self _)
  have hrun : (execOp a.eval ⟨d, .call { callee := .builtin .append, args := #[x, y], argTypes := #[t, t] }, ty, pos, after, gu⟩).run C.P w = .ok (.value v') w' := by
    rw [hlys] at h9
    simp only [execOp, resolve, invoke, builtin, Sem.run_bind, Sem.run_pure, Result.andThen_ok, List.map_toArray, List.map_cons, List.map_nil, ← h1, h9, hr]
  have hwl : w.heap.size ≤ w'.heap.size := h16.size
  obtain ⟨k1, k2⟩ := heap_new (fr := fr) hH ha (o := .row et de.size enc xs) (ob := .row et de.size enc (xs ++ ys)) hmem (v' := v') (w' := w') hfr ⟨h16.os, h16.tape, h16.output, h16.size, fun k hk hne => h16.block k hk (by rw [hebr] at hne; exact hne)⟩
    (by
      rw [hebr, ownsRow_blk h15]
      rcases h17 with h17 | h17
      · exact .inl h17
      · exact .inr fun g hg => by rw [h17] at hg; injection hg with hg; omega)
    ⟨v', us ++ news, upd_at _ _ _, by rw [List.length_append]; exact h15, by unfold IvFlat; rw [List.flatMap_append]; exact h5.append h11, h6, fun g hg => by
      rcases h17 with h17 | h17
      · rw [h17] at hg; exact h7 g hg
      · rw [h17] at hg
        injection hg with hg
        subst hg
        cases e : μ w.heap.size with
        | none => rfl
        | some q => exact absurd (ha.lt (b := w.heap.size) (by rw [e]; simp)) (Nat.lt_irrefl _), h8.append h12⟩
  unfold Oper.wp
  rw [hrun]
  refine ⟨v', μ, _, rfl, ?_, k1, upd_le hfr, fun i hi => ?_, k2⟩
  · unfold SV.R
    refine ⟨upd_at _ _ _, ?_⟩
    rcases h15.2 with ⟨rfl, hn⟩ | ⟨g, cap, cur, rfl, _⟩
    · exact ⟨none, 0, by rw [hn], .inl hn⟩
    · exact ⟨_, cap, rfl, .inr ⟨g, rfl⟩⟩
  · unfold upd at hi
    by_cases e : i = fr
    · exact .inr ⟨by omega, by omega⟩
    · rw [if_neg e] at hi; exact .inl hi

/- literals -/
def chunk (k : Nat) : Nat → List IV → List (List IV)
  | 0, _ => []
  | n + 1, l => l.take k :: chunk k n (l.drop k)
theorem chunk_length (k : Nat) : ∀ (n : Nat) (l : List IV), (chunk k n l).length = n
  | 0, _ => rfl
  | n + 1, l => by simp [chunk, chunk_length k n]
theorem chunk_at {μ : Mem} {b k : Nat} : ∀ (n : Nat) (l : List IV) (o : Nat), Cells μ b o l → ∀ i x, (chunk k n l)[i]? = some x → Cells μ b (o + i * k) x
  | 0, _, _, _, i, x, h => by simp [chunk] at h
  | n + 1, l, o, hc, i, x, h => by
    cases i with
    | zero => simp [chunk] at h; subst h; rw [Nat.zero_mul, Nat.add_zero]; exact hc.take k
    | succ i =>
      have := chunk_at n (l.drop k) (o + k) (hc.drop k) i x (by simpa [chunk] using h)
      rw [show o + (i + 1) * k = o + k + i * k by rw [Nat.add_mul]; omega]; exact this
def repS (z : List SV) : Nat → List SV
  | 0 => []
  | n + 1 => z ++ repS z n
theorem opn_slit {t et : TypeId} {de : TyInf} {n k : Nat} {ps : List (Nat × Operand)} {out : List SV} {l : List IV} (hT : slT C t = some (et, de)) (hk : de.size = k) (hz : Nat.beq de.zero.cells.size k = true) (hk0 : Nat.blt 0 k = true) (h1 : oneB de.zero.cells.toList = true) (hn : Nat.ble (n * k) 16777216 = true)
    (hp : Parts σ (fun i => some (i * k, k)) (repS (zeroS de.zero) n) ps out) (hi : ims out = some l) : OpN C ⟨d, .buildSlice t n ps.toArray, ty, pos, after, gu⟩ σ (.im (IV.view k (fun x => x) (chunk k n l))) := OpN.run fun ρ μ a w hl ha => by
  obtain ⟨hu, hTe⟩ := slT_at hT
  subst hk
  have hzl : de.zero.cells.size = de.size := Nat.eq_of_beq_eq_true hz
  have hpos : 0 < de.size := Nat.blt_eq ▸ hk0
  have hev : ∀ p ∈ ps, ∀ s, Ev σ p.2 s → SV.R ρ μ s (a.eval p.2) := fun p hp s hs => hs.at hl (by simp [Op.operands]; exact ⟨p.1, hp⟩)
  let us : Array Value := if n * de.size = 0 then #[] else (Array.range (n * de.size)).map (de.zero.cells[· % de.zero.cells.size]!)
  have hus : us = (Array.range (n * de.size)).map (de.zero.cells[· % de.zero.cells.size]!) := by
    show (if n * de.size = 0 then #[] else _) = _
    split
    · rename_i h; rw [h]; simp
    · rfl
  have hrep : ∀ n, (repS (zeroS de.zero) n).length = n * de.size ∧ ∀ j s, (repS (zeroS de.zero) n)[j]? = some s → s = SV.im (IV.val (de.zero.cells[j % de.zero.cells.size]!)) := by
    intro n
    have hzz : (zeroS de.zero).length = de.size := by simp [zeroS, hzl]
    induction n with
    | zero => exact ⟨by simp [repS], fun j s h => by simp [repS] at h⟩
    | succ n ih =>
      refine ⟨by simp only [repS, List.length_append, hzz, ih.1]; rw [Nat.add_mul]; omega, fun j s h => ?_⟩
      simp only [repS] at h
      rcases Nat.lt_or_ge j de.size with hj | hj
      · rw [List.getElem?_append_left (by omega)] at h
        unfold zeroS at h
        rw [List.getElem?_map, Option.map_eq_some_iff] at h
        obtain ⟨u, h2, rfl⟩ := h
        rw [hzl, Nat.mod_eq_of_lt hj]
        congr 2
        rw [Array.getElem?_toList] at h2
        simp [getElem!_def, h2]
      · rw [List.getElem?_append_right (by omega), hzz] at h
        rw [ih.2 _ s h, hzl, Nat.mod_eq_sub_mod hj]
  have hR : SV.Rs ρ μ (repS (zeroS de.zero) n) us.toList ∧ One us.toList := by
    have key : ∀ (l : List SV) (vs : List Value), l.length = vs.length → (∀ (j : Nat) (s : SV) (v : Value), l[j]? = some s → vs[j]? = some v → SV.R ρ μ s v) → SV.Rs ρ μ l vs := by
      intro l
      induction l with
      | nil => intro vs h _; have : vs = [] := List.eq_nil_of_length_eq_zero (by simpa using h.symm); unfold SV.Rs; exact this
      | cons s l ih =>
        intro vs h h2
        cases vs with
        | nil => simp at h
        | cons v vs => unfold SV.Rs; exact ⟨v, vs, rfl, h2 0 s v rfl rfl, ih vs (by simpa using h) fun j s' v' hs hv => h2 (j + 1) s' v' (by simpa using hs) (by simpa using hv)⟩
    rw [hus]
    refine ⟨key _ _ (by simp [(hrep n).1]) fun j s v hs hv => ?_, fun u hu => ?_⟩
    · have hj : j < n * de.size := by rw [← (hrep n).1]; exact (List.getElem?_eq_some_iff.1 hs).1
      rw [(hrep n).2 j s hs]
      simp [hj] at hv
      exact R_im.2 hv.symm
    · simp only [Array.toList_map, List.mem_map] at hu
      obtain ⟨j, hj, rfl⟩ := hu
      have hlt : j % de.zero.cells.size < de.zero.cells.size := Nat.mod_lt _ (by omega)
      refine oneB_one h1 _ ?_
      rw [getElem!_pos de.zero.cells _ hlt]
      exact Array.getElem_mem_toList hlt
  obtain ⟨us', h4, h5, h6⟩ := hp.fill (ρ := ρ) (μ := μ) (a := a) hev hR.1 hR.2
  rw [ims_map hi] at h5
  have hs := Stp.newCells ha us' et
  refine ⟨_, _, _, ?_, R_im.2 ⟨some ⟨w.heap.size, 0, none⟩, n, by rw [chunk_length], by rw [chunk_length]; exact Nat.le_refl _, ?_, .inr ⟨w.heap.size, 0, rfl, chunk_at n l 0 ?_⟩⟩, hs⟩
  · have hle := Nat.le_of_ble_eq_true hn
    have hrun : (execOp a.eval ⟨d, .buildSlice t n ps.toArray, ty, pos, after, gu⟩).run C.P w = .ok (.value (.slice (some ⟨w.heap.size, 0, none⟩) n n)) (w.alloc (.cells us' et)) := by
      simp only [execOp, Instr.buildSlice, Sem.run_bind, run_underlying hu, Result.andThen_ok, hTe.size w]
      rw [if_neg (by omega)]
      have hps : (Array.map (fun (x : Nat × Operand) => (x.fst, a.eval x.snd)) ps.toArray).toList = ps.map fun p => (p.1, a.eval p.2) := by simp
      by_cases h0 : n * de.size = 0
      · have h4' := h4
        rw [hus, h0] at h4'
        simp only [h0, if_true, Sem.run_bind, Sem.run_pure, Result.andThen_ok, hps]
        have e0 : Array.map (fun x => (#[] : Array Value)[x % (#[] : Array Value).size]!) (Array.range 0) = Array.map (fun x => de.zero.cells[x % de.zero.cells.size]!) (Array.range 0) := by simp
        rw [e0, h4']
        simp [newRow, newObj, Sem.run]
      · have h4' := h4
        rw [hus] at h4'
        simp only [if_neg h0, Sem.run_bind, Sem.run_pure, Result.andThen_ok, hps, hTe.zero w, h4']
        simp [newRow, newObj, Sem.run]
    exact hrun
  · have hle := Nat.le_of_ble_eq_true hn
    have : n ≤ n * de.size := Nat.le_mul_of_pos_right _ hpos
    simp only [maxLen]; omega
  · have := Cells.new (w := w) (SV.Rs.im.1 h5) h6 (by simpa using hs.le)
    simpa using this
end
end Go.Proofs.Ytjgmbgfcffnanac
