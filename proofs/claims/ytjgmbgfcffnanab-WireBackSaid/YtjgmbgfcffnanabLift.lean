/- From a contract ('the law returns true, and nothing that was there has turned') to the row. No condition. -/
import Derived.Test.YtjgmbgfcffnanabRows
import Derived.Test.YtjgmbgfcffnanabEA
import Derived.ProofKit
import Derived.Lib.SmallJoins
import Derived.Deep.Slices
import Derived.Deep.Fields
namespace Go.Proofs.Ytjgmbgfcffnanab
open Go.ChangeShapes Go.WideShapes Go.ChangeAt Go.RowKit Go.WideMaps Go.WideElems Go.Joins

theorem Try.own : ownKnob Try.prog.godebug = none := by kernel_rfl
theorem Try.laidOut : laidOutB Try.prog = true := by kernel_rfl

section
variable {H : Type} {enc : TypeId × Value → H} {P : Program}
theorem trodAll_stays (hl : laidOutB P = true) {W W' : World} (hb : Below W.heap.size W W') : ∀ {ts : List TypeId} {vs : List Value} {ds : List (DataW H)} {ps : List MemPlace},
    ts.all (fun t => P.readableRec t && decide (t < P.types.size)) = true → DataW.TrodAll enc P W 0 (fun _ => true) true ts vs ds ps → (∀ p ∈ ps, p.block < W.heap.size) →
    DataW.TrodAll enc P W' 0 (fun b => decide (b < W.heap.size)) true ts vs ds ps
  | [], [], [], _, _, h, _ => h
  | t :: ts, v :: vs, d :: ds, ps, ht, h, hp => by
    obtain ⟨p, q, h1, h2, rfl⟩ := h
    simp only [List.all_cons, Bool.and_eq_true, decide_eq_true_eq] at ht
    exact ⟨p, q, Below.trod hl ht.1.1 ht.1.2 h1 hb (fun x hx => hp x (by simp [hx])), trodAll_stays hl hb ht.2 h2 (fun x hx => hp x (by simp [hx])), rfl⟩
  | [], _ :: _, _, _, _, h, _ => h.elim
  | [], [], _ :: _, _, _, h, _ => h.elim
  | _ :: _, [], _, _, _, h, _ => h.elim
  | _ :: _, _ :: _, [], _, _, h, _ => h.elim

theorem law_post {f : Func} {s : ChangeSpec} {tb : TypeId} {W W' : World} {args : Array Value} {ds gs : List (DataW H)} {before : List MemPlace} (hl : laidOutB P = true)
    (hts : f.params.toList.all (fun t => P.readableRec t && decide (t < P.types.size)) = true) (hrt : f.resultTypes = #[tb]) (hbool : P.underlying tb = some .bool) (hsv : s.vars = [])
    (hW : DataW.Whole enc P f.params.toList s.vars false W args.toList ds gs before)
    (hr : (s.fn H (ds ++ gs)).results = [.lit (.bool true)]) (ha : (s.fn H (ds ++ gs)).args = ds) (hv : (s.fn H (ds ++ gs)).vars = []) (hb : Below W.heap.size W W') :
    s.post enc P f false true false false W args (.bool true) W' := by
  have hlt : ∀ p ∈ before, p.block < W.heap.size := fun p hp => hW.lt p hp
  obtain ⟨p, q, hA, hV, hpq, hz, hn⟩ := hW
  refine ⟨ds, gs, before, [], p, [], ⟨p, q, hA, hV, hpq, hz, hn⟩, ?_, ?_, ?_, hb.frame _, fun h => by cases h⟩
  · rw [hr, hrt]
    exact trodAll_mk1 (shut_bool hbool true)
  · rw [ha]
    exact trodAll_stays hl hb hts hA (fun x hx => hlt x (by rw [hpq]; simp [hx]))
  · rw [hsv, hv]
    rfl
end

/- an int, a slice of ints, as they come in -/
section
variable {H : Type} {enc : TypeId × Value → H} {P : Program} {W : World} {base b0 : Nat} {sp : Nat → Bool} {hd : Bool}
theorem in_int {t : TypeId} (ht : P.underlying t = some (.int .i64)) {v : Value} {d : DataW H} {p : List MemPlace} (hv : Value.okWide P W .any b0 t v) (h : DataW.Trod enc P W base sp hd t v d p) : ∃ x, v = .int .i64 x ∧ I64 x := by
  obtain ⟨x, rfl, rfl, rfl, wx⟩ := open_int ht hv h
  exact ⟨x, rfl, I64.of_wf wx⟩

theorem in_slice {α : Type} {k : Nat} {enc' : α → List Value} {Q : α → Prop} {t e : TypeId} (ht : P.underlying t = some (.slice e)) (hk : P.cellsOf e = k) (hk0 : 0 < k) (hlen : ∀ x, (enc' x).length = k)
    (hel : ∀ n cs' y, DataW.trod enc P W base sp hd n e cs' = some y → cs'.length = k → ∃ x, cs' = enc' x ∧ Q x) {cs : List Value} {y : DataW H × List MemPlace} {fuel : Nat} (h : DataW.trod enc P W base sp hd fuel t cs = some y) :
    ∃ A len c xs, cs = [.slice A len c] ∧ len ≤ c ∧ c ≤ maxLen ∧ Rd k enc' W A len xs ∧ ∀ x ∈ xs, Q x := by
  rcases Go.Deep.open_slice ht h with ⟨rfl, _⟩ | ⟨a, len, cap, m, n, D, Pl, rfl, hb, hl, hm, hmm, hx, hi⟩
  · exact ⟨none, 0, 0, [], rfl, Nat.le_refl _, by simp [maxLen], ⟨rfl, Sl.nil _⟩, by simp⟩
  · have hlm : len ≤ m := by rw [hmm]; split <;> omega
    have hev : ∀ i, i < len → ∃ x, Q x ∧ ∀ (j : Nat) (u : Value), (enc' x)[j]? = some u → W.cell? (a.add (i * k + j)) = some u := by
      intro i hil
      obtain ⟨cs', hc, hd'⟩ := hi i (by omega)
      rw [hk] at hc
      obtain ⟨_, hcl, hat⟩ := World.cells?_some hc
      obtain ⟨x, rfl, hq⟩ := hel n cs' _ hd' hcl
      refine ⟨x, hq, fun j u hj => ?_⟩
      have hjl : j < (enc' x).length := (List.getElem?_eq_some_iff.1 hj).1
      rw [← Go.Deep.add_add, hat j (by omega), hj]
    let f : Nat → Option α := fun i => if h : i < len then some (Classical.choose (hev i h)) else none
    have hf : ∀ i (h : i < len), f i = some (Classical.choose (hev i h)) := fun i h => by simp only [f, dif_pos h]
    refine ⟨some a, len, cap, (List.range len).filterMap f, rfl, hl, hm, ?_, ?_⟩
    · have hmap : ∀ l : List Nat, (∀ i ∈ l, i < len) → (l.filterMap f).length = l.length ∧ ∀ i : Nat, (l.filterMap f)[i]? = (l[i]?).bind f := by
        intro l
        induction l with
        | nil => intro _; exact ⟨rfl, fun i => by simp⟩
        | cons q l ih =>
          intro hq
          have h0 := hf q (hq q (by simp))
          obtain ⟨i1, i2⟩ := ih (fun i hi => hq i (by simp [hi]))
          rw [List.filterMap_cons_some h0]
          refine ⟨by simp [i1], fun i => ?_⟩
          cases i with
          | zero => simp [h0]
          | succ i => simpa using i2 i
      obtain ⟨g1, g2⟩ := hmap (List.range len) (fun i hi => by simpa using hi)
      refine ⟨by simpa using g1, ?_⟩
      rcases Nat.eq_zero_or_pos len with h0 | hpos
      · left; apply List.eq_nil_of_length_eq_zero; rw [g1, h0]; rfl
      · obtain ⟨b, o, spot⟩ := a
        have hsp : spot = none := by
          obtain ⟨x, _, hc⟩ := hev 0 hpos
          have h1 : ∃ u, (enc' x)[0]? = some u := ⟨_, List.getElem?_eq_getElem (by rw [hlen]; exact hk0)⟩
          obtain ⟨u, hu⟩ := h1
          have := hc 0 u hu
          simpa [Addr.add] using World.cell?_spot this
        subst hsp
        have hadd : ∀ q, (⟨b, o, none⟩ : Addr).add q = ⟨b, o + q, none⟩ := fun q => by
          by_cases h : q = 0 <;> simp [Addr.add, h]
        have hblt : b < W.heap.size := by
          obtain ⟨x, _, hc⟩ := hev 0 hpos
          have h1 : ∃ u, (enc' x)[0]? = some u := ⟨_, List.getElem?_eq_getElem (by rw [hlen]; exact hk0)⟩
          obtain ⟨u, hu⟩ := h1
          have := hc 0 u hu
          rw [hadd] at this
          rcases Nat.lt_or_ge b W.heap.size with hlt | hge
          · exact hlt
          · simp [World.cell?, Array.getElem?_eq_none hge] at this
        refine .inr ⟨b, o, rfl, hblt, fun i x hx j u hj => ?_⟩
        rw [g2 i] at hx
        have hil : i < len := by
          rcases Nat.lt_or_ge i len with h | h
          · exact h
          · rw [List.getElem?_eq_none (by simpa using h)] at hx; cases hx
        rw [List.getElem?_range hil] at hx
        simp only [Option.bind_some, hf i hil, Option.some.injEq] at hx
        subst hx
        have := (Classical.choose_spec (hev i hil)).2 j u hj
        rwa [hadd, ← Nat.add_assoc] at this
    · intro x hx
      obtain ⟨i, hi, hfi⟩ := List.mem_filterMap.1 hx
      have hil : i < len := by simpa using hi
      rw [hf i hil] at hfi
      injection hfi with hfi
      subst hfi
      exact (Classical.choose_spec (hev i hil)).1

theorem el_int {t : TypeId} (ht : P.underlying t = some (.int .i64)) {n : Nat} {cs : List Value} {y : DataW H × List MemPlace} (h : DataW.trod enc P W base sp hd n t cs = some y) : ∃ x : Int, cs = encI x ∧ I64 x := by
  obtain ⟨x, hv, _, hw⟩ := DataW.trod_int ht h
  exact ⟨x, hv, I64.of_wf hw⟩

theorem in_ints {t e : TypeId} (ht : P.underlying t = some (.slice e)) (he : P.underlying e = some (.int .i64)) (hc : P.cellsOf e = 1) {cs : List Value} {y : DataW H × List MemPlace} {fuel : Nat} (h : DataW.trod enc P W base sp hd fuel t cs = some y) :
    ∃ A len c xs, cs = [.slice A len c] ∧ len ≤ c ∧ c ≤ maxLen ∧ Rd 1 encI W A len xs ∧ ∀ x ∈ xs, I64 x :=
  in_slice ht hc (by omega) (fun _ => rfl) (fun _ _ _ h _ => el_int he h) h
theorem cells_slice {A : Option Addr} {len c : Nat} {v : Value} {t e : TypeId} (ht : P.underlying t = some (.slice e)) (hv : Value.okWide P W .any b0 t v) (h : v.cells.toList = [.slice A len c]) : v = .slice A len c := by
  obtain ⟨a, l, cp, rfl⟩ := okWide_slice ht hv
  simpa [Value.cells] using h
end

end Go.Proofs.Ytjgmbgfcffnanab
