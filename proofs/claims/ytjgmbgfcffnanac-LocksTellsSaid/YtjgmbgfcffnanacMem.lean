/- Plain facts on memory, over any program: a slice that reads as a list of records ('Sl'), a row of the call's own ('Own'), maps with integer keys. No condition. -/
import Derived.WalkKit
import Derived.WalkSpells
import Derived.WalkLawsBesides
import Derived.Handy
import Derived.Maps.Own
import Derived.Lib.Hide
namespace Go.Proofs.Ytjgmbgfcffnanac
open Go.RowKit

/- an int64's range, behind a name -/
def I64 (x : Int) : Prop := -9223372036854775808 ≤ x ∧ x ≤ 9223372036854775807
theorem I64.wf {x : Int} (h : I64 x) : (Lit.int .i64 x).wf = true := WalkArith.wf_i64 h
theorem I64.of_wf {x : Int} (h : (Lit.int .i64 x).wf = true) : I64 x := bounds_i64 h
theorem I64.wrap (x : Int) : I64 (wrap64 x) := by unfold I64 wrap64; omega
theorem I64.wrap_eq {x : Int} (h : I64 x) : wrap64 x = x := by unfold I64 at h; unfold wrap64; omega

section
variable {α : Type} {w w' : World}

/- the slice at A reads as the list xs, each element k cells, by enc -/
def Sl (k : Nat) (enc : α → List Value) (w : World) (A : Option Addr) (xs : List α) : Prop :=
  xs = [] ∨ ∃ b o, A = some ⟨b, o, none⟩ ∧ b < w.heap.size ∧ ∀ (i : Nat) (x : α), xs[i]? = some x → ∀ (j : Nat) (u : Value), (enc x)[j]? = some u → w.cell? ⟨b, o + i * k + j, none⟩ = some u

variable {k : Nat} {enc : α → List Value} {A : Option Addr} {xs : List α}
theorem Sl.nil (A : Option Addr) : Sl k enc w A [] := .inl rfl
theorem Sl.keep (h : Sl k enc w A xs) (hs : w.heap.size ≤ w'.heap.size) (hk : ∀ p : Addr, p.block < w.heap.size → w'.cell? p = w.cell? p) : Sl k enc w' A xs := by
  rcases h with h | ⟨b, o, hA, hb, hc⟩
  · exact .inl h
  · exact .inr ⟨b, o, hA, by omega, fun i x hi j u hj => (hk _ hb).trans (hc i x hi j u hj)⟩
theorem Sl.below (h : Sl k enc w A xs) (hb : Below w.heap.size w w') : Sl k enc w' A xs := h.keep hb.size fun _ hp => hb.cell hp
theorem Sl.alloc (h : Sl k enc w A xs) (o : Obj) : Sl k enc (w.alloc o) A xs := h.below ((Below.refl _ _).alloc (Nat.le_refl _) _)
theorem Sl.drew (h : Sl k enc w A xs) : Sl k enc w.drew A xs := h
theorem Sl.drewN (h : Sl k enc w A xs) (n : Nat) : Sl k enc (w.drewN n) A xs := h
theorem Sl.at_ (h : Sl k enc w A xs) {i : Nat} {x : α} (hi : xs[i]? = some x) :
    ∃ b o, A = some ⟨b, o, none⟩ ∧ b < w.heap.size ∧ ∀ (j : Nat) (u : Value), (enc x)[j]? = some u → w.cell? ⟨b, o + i * k + j, none⟩ = some u := by
  rcases h with rfl | ⟨b, o, hA, hb, hc⟩
  · simp at hi
  · exact ⟨b, o, hA, hb, hc i x hi⟩
theorem Sl.map {β : Type} {f : β → α} {ys : List β} (h : Sl k (fun y => enc (f y)) w A ys) : Sl k enc w A (ys.map f) := by
  rcases h with rfl | ⟨b, o, hA, hb, hc⟩
  · exact .inl rfl
  · refine .inr ⟨b, o, hA, hb, fun i x hi j u hj => ?_⟩
    rw [List.getElem?_map, Option.map_eq_some_iff] at hi
    obtain ⟨y, hy, rfl⟩ := hi
    exact hc i y hy j u hj
theorem Sl.cut (h : Sl k enc w A xs) {i cap : Nat} (hi : i ≤ xs.length) (hc : xs.length ≤ cap) :
    Sl k enc w (if cap = i then A else A.map (·.add (i * k))) (xs.drop i) := by
  by_cases he : i = xs.length
  · subst he; rw [List.drop_length]; exact .inl rfl
  · rcases h with rfl | ⟨b, o, hA, hb, hcell⟩
    · simp at hi he; exact absurd hi he
    · subst hA
      rw [if_neg (by omega)]
      refine .inr ⟨b, o + i * k, ?_, hb, fun j x hj l u hl => ?_⟩
      · by_cases h0 : i * k = 0 <;> simp [Addr.add, h0]
      · rw [List.getElem?_drop] at hj
        have := hcell (i + j) x hj l u hl
        rw [Nat.add_mul] at this
        rw [Nat.add_assoc o (i * k) (j * k)]
        exact this
theorem Sl.take (h : Sl k enc w A xs) (n : Nat) : Sl k enc w A (xs.take n) := by
  rcases h with rfl | ⟨b, o, hA, hb, hc⟩
  · exact .inl (by simp)
  · refine .inr ⟨b, o, hA, hb, fun i x hi => hc i x ?_⟩
    rw [List.getElem?_take] at hi
    split at hi
    · exact hi
    · cases hi

/- with the length -/
def Rd (k : Nat) (enc : α → List Value) (w : World) (A : Option Addr) (n : Nat) (xs : List α) : Prop := xs.length = n ∧ Sl k enc w A xs
theorem Rd.below {n : Nat} (h : Rd k enc w A n xs) (hb : Below w.heap.size w w') : Rd k enc w' A n xs := ⟨h.1, h.2.below hb⟩
theorem Rd.alloc {n : Nat} (h : Rd k enc w A n xs) (o : Obj) : Rd k enc (w.alloc o) A n xs := ⟨h.1, h.2.alloc o⟩
theorem Rd.drew {n : Nat} (h : Rd k enc w A n xs) : Rd k enc w.drew A n xs := h
theorem Rd.drewN {n : Nat} (h : Rd k enc w A n xs) (m : Nat) : Rd k enc (w.drewN m) A n xs := h

theorem flat_at {k : Nat} {enc : α → List Value} (hk : ∀ x, (enc x).length = k) : ∀ (xs : List α) (i : Nat) (x : α), xs[i]? = some x → ∀ (j : Nat) (u : Value), (enc x)[j]? = some u → (xs.flatMap enc)[i * k + j]? = some u := by
  intro xs
  induction xs with
  | nil => intro i x h; simp at h
  | cons y ys ih =>
    intro i x hi j u hj
    rw [List.flatMap_cons]
    cases i with
    | zero =>
      simp at hi; subst hi
      have hl : j < (enc y).length := (List.getElem?_eq_some_iff.1 hj).1
      rw [Nat.zero_mul, Nat.zero_add, List.getElem?_append_left hl]; exact hj
    | succ i =>
      have := ih i x (by simpa using hi) j u hj
      have h2 := hk y
      rw [List.getElem?_append_right (by rw [h2, Nat.succ_mul]; omega), h2, Nat.succ_mul]
      rw [show i * k + k + j - k = i * k + j from by omega]
      exact this
theorem flat_length {k : Nat} {enc : α → List Value} (hk : ∀ x, (enc x).length = k) (xs : List α) : (xs.flatMap enc).length = xs.length * k := by
  induction xs with
  | nil => simp
  | cons y ys ih => rw [List.flatMap_cons, List.length_append, ih, hk, List.length_cons, Nat.succ_mul]; omega

/- what the call owns reads as the list -/
theorem Sl.of_own {base n c : Nat} {e : TypeId} (hk : ∀ x, (enc x).length = k) (h : w.ownsRow base e k (.slice A n c) xs.length (xs.flatMap enc)) : Sl k enc w A xs := by
  rcases h.2 with ⟨_, h0⟩ | ⟨g, cap, cur, hv, _, hg, _⟩
  · exact .inl (List.eq_nil_of_length_eq_zero h0)
  · injection hv with hA
    subst hA
    have hlt : g < w.heap.size := by
      rcases Nat.lt_or_ge g w.heap.size with hlt | hge
      · exact hlt
      · rw [Array.getElem?_eq_none hge] at hg; cases hg
    refine .inr ⟨g, 0, rfl, hlt, fun i x hi j u hj => ?_⟩
    have := h.cells (g := g) rfl (i * k + j) u (flat_at hk xs i x hi j u hj)
    rw [Nat.zero_add]
    by_cases h0 : i * k + j = 0
    · rw [h0] at this ⊢; simpa [Addr.add] using this
    · rw [Addr.add, if_neg h0, Nat.zero_add] at this
      exact this
end

/- a block that is known whole reads as what it holds -/
theorem Sl.of_new {α : Type} {k : Nat} {enc : α → List Value} (hk : ∀ x, (enc x).length = k) (w : World) (xs : List α) (t : TypeId) :
    Sl k enc (w.alloc (.cells (xs.flatMap enc).toArray t)) (some ⟨w.heap.size, 0, none⟩) xs := by
  refine .inr ⟨w.heap.size, 0, rfl, by simp, fun i x hi j u hj => ?_⟩
  have := flat_at hk xs i x hi j u hj
  rw [World.cell?_alloc_new, Nat.zero_add]
  simpa using this

theorem Rd.new {α : Type} {k : Nat} {enc : α → List Value} {w : World} {cs : Array Value} {t : TypeId} {b n : Nat} (xs : List α) (hk : ∀ x, (enc x).length = k) (hb : b = w.heap.size) (hn : xs.length = n) (hcs : cs = (xs.flatMap enc).toArray) :
    Rd k enc (w.alloc (.cells cs t)) (some ⟨b, 0, none⟩) n xs := by subst hb hcs; exact ⟨hn, Sl.of_new hk w xs t⟩

/- cells of a new block, as the law of append asks for them -/
theorem news_blk {w : World} {cs : List Value} {t : TypeId} {b : Nat} (hb : b = w.heap.size) : ∀ j u, cs[j]? = some u → (w.alloc (.cells cs.toArray t)).cell? ((⟨b, 0, none⟩ : Addr).add j) = some u := by
  subst hb
  intro j u h
  have hadd : (⟨w.heap.size, 0, none⟩ : Addr).add j = ⟨w.heap.size, j, none⟩ := by by_cases h0 : j = 0 <;> simp [Addr.add, h0]
  rw [hadd, World.cell?_alloc_new]
  simpa using h

/- a row of the call's own that reads as a list -/
def Own {α : Type} (E k : Nat) (enc : α → List Value) (w : World) (B : Nat) (v : Value) (xs : List α) : Prop := w.ownsRow B E k v xs.length (xs.flatMap enc)
section
variable {α : Type} {E k B : Nat} {enc : α → List Value} {w w' : World} {v : Value} {xs : List α}
theorem Own.out (h : Own E k enc w B v xs) : w.ownsRow B E k v xs.length (xs.flatMap enc) := h
theorem Own.nil : Own E k enc w B (.slice none 0 0) ([] : List α) := World.ownsRow_nil _ _ _ _
theorem Own.alloc (h : Own E k enc w B v xs) (o : Obj) : Own E k enc (w.alloc o) B v xs := World.ownsRow.alloc h o
theorem Own.drewN (h : Own E k enc w B v xs) (n : Nat) : Own E k enc (w.drewN n) B v xs := h
theorem Own.push {x : α} {v' : Value} (h : w'.ownsRow B E k v' (xs.length + 1) (xs.flatMap enc ++ enc x)) : Own E k enc w' B v' (xs ++ [x]) := by
  unfold Own; rw [List.flatMap_append, List.length_append]; simpa using h
theorem Own.more {ys : List α} {v' : Value} {m : Nat} (h : w'.ownsRow B E k v' (xs.length + m) (xs.flatMap enc ++ ys.flatMap enc)) (hm : ys.length = m) : Own E k enc w' B v' (xs ++ ys) := by
  subst hm; unfold Own; rw [List.flatMap_append, List.length_append]; exact h
theorem Own.form (hk : ∀ x, (enc x).length = k) (h : Own E k enc w B v xs) : ∃ A c, v = .slice A xs.length c ∧ xs.length ≤ c ∧ c ≤ maxLen ∧ Rd k enc w A xs.length xs := by
  rcases h.2 with ⟨rfl, h0⟩ | ⟨g, cap, cur, rfl, h1, h2, h3, h4, h5, h6⟩
  · refine ⟨none, 0, by rw [h0], by omega, by simp [maxLen], rfl, ?_⟩
    rw [List.eq_nil_of_length_eq_zero h0]; exact Sl.nil _
  · exact ⟨some ⟨g, 0, none⟩, cap, rfl, h3, h4, rfl, Sl.of_own hk (base := B) (e := E) h⟩
theorem Own.base {B' : Nat} (h : Own E k enc w B v xs) (hB : B' ≤ B) : Own E k enc w B' v xs := by
  refine ⟨h.1, ?_⟩
  rcases h.2 with h0 | ⟨g, cap, cur, h1, h2, h3⟩
  · exact .inl h0
  · exact .inr ⟨g, cap, cur, h1, Nat.le_trans hB h2, h3⟩
theorem Own.lt (h : Own E k enc w B v xs) : ∀ g, v.ownBlock = some g → B ≤ g ∧ g < w.heap.size := World.ownsRow.lt h
theorem Own.grown {row : Option Nat} (h : Own E k enc w B v xs) (hg : w.grownBy w' row) (hne : v.ownBlock = none ∨ v.ownBlock ≠ row) : Own E k enc w' B v xs := World.ownsRow.kept h hg hne
/- the frame behind an append to a row from B on -/
theorem Own.frame {a : World} (h : Own E k enc w B v xs) (hb : Below a.heap.size a w) (hB : a.heap.size ≤ B) (hg : w.grownBy w' v.ownBlock) : Below a.heap.size a w' :=
  Below.grown hb hg hb.size (fun g hv => Nat.le_trans hB (h.lt g hv).1)
end

/- a chain of worlds, each as the one before but for what is new -/
theorem Bel.step {a w w' : World} (h : Below a.heap.size a w) (hb : Below w.heap.size w w') : Below a.heap.size a w' := h.trans (hb.mono h.size)
theorem Bel.alloc {a w : World} (h : Below a.heap.size a w) (o : Obj) : Below a.heap.size a (w.alloc o) := Below.alloc h h.size o
theorem Rg.step {a w w' : World} {R : Prop} (h : Below a.heap.size a w ∧ R) (hb : Below w.heap.size w w') : Below a.heap.size a w' := h.1.trans (hb.mono h.1.size)
theorem Bel.drew {a w : World} (h : Below a.heap.size a w) : Below a.heap.size a w.drew := h.drew
theorem Bel.drewN {a w : World} (h : Below a.heap.size a w) (n : Nat) : Below a.heap.size a (w.drewN n) := ⟨h.os, h.tape, h.output, h.size, h.block⟩

/- all cells and marks below B, as rules -/
theorem bcell {B : Nat} {w w' : World} (hb : Below B w w') : (∀ b o, b < B → w'.cell? ⟨b, o, none⟩ = w.cell? ⟨b, o, none⟩) ∧ (∀ b o, b < B → w'.frozen? ⟨b, o, none⟩ = w.frozen? ⟨b, o, none⟩) :=
  ⟨fun b o h => hb.cell (p := ⟨b, o, none⟩) h, fun b o h => hb.frozen (p := ⟨b, o, none⟩) h⟩

/- maps with integer keys -/
theorem run_checkKey_int {P : Program} {K : TypeId} {kd : IntKind} (hk : P.underlying K = some (.int kd)) (b : Bool) (w : World) (k : Int) :
    (Instr.checkKey b 10000 K (.int kd k)).run P w = .ok () w := by
  have h : ∀ n, (Instr.checkKey b (n + 1) K (.int kd k)).run P w = .ok () w := fun n => by simp [Instr.checkKey, run_underlying hk]
  exact h 9999

theorem run_mapUpdate_new {P : Program} {T K E : TypeId} {kd : IntKind} (hu : P.underlying T = some (.map K E)) (hk : P.underlying K = some (.int kd)) (w : World) (es : Array MapEntry) (clock : Nat) (k : Int) (v : Value)
    (hnew : Instr.findNow (.int kd) (.int kd k) es.toList 0 = some none) :
    (Instr.mapUpdate T (.map (some w.heap.size)) (.int kd k) v).run P (w.alloc (.map es clock)) = .ok () (w.alloc (.map (es.push { key := .int kd k, val := v, born := clock }) (clock + 1))) := by
  have h2 : (Instr.findKey K (.int kd k) es.toList).run P (w.alloc (.map es clock)) = .ok none (w.alloc (.map es clock)) := by
    simp [Instr.findKey, run_underlying hk, hnew]
  have hb : (w.alloc (.map es clock)).heap[w.heap.size]? = some (.map es clock) := heap_alloc_new w _
  have h3 : ∀ o', (w.alloc (.map es clock)).heap.setIfInBounds w.heap.size o' = w.heap.push o' := fun o' => by
    have h4 : (w.alloc (.map es clock)).heap = w.heap.push (.map es clock) := rfl
    rw [h4]
    apply Array.ext_getElem?
    intro i
    simp only [Array.getElem?_setIfInBounds, Array.getElem?_push, Array.size_push]
    by_cases hi : w.heap.size = i
    · subst hi; simp
    · have : ¬ i = w.heap.size := fun h => hi h.symm
      simp [hi, this]
  simp [Instr.mapUpdate, run_underlying hu, run_checkKey_int hk, h2, MapKept.run_getObj_map hb, MapKept.run_setObj_map _ hb, h3]
  rfl

theorem run_lookup_key {P : Program} {T K E : TypeId} {kd : IntKind} (hu : P.underlying T = some (.map K E)) (hk : P.underlying K = some (.int kd)) (w : World) (r : Nat) (es : Array MapEntry) (clock : Nat) (k : Int)
    (hb : w.heap[r]? = some (.map es clock)) (i : Nat) (v : Value)
    (hf : Instr.findNow (.int kd) (.int kd k) es.toList 0 = some (some (i, v))) :
    (Instr.lookup T (.map (some r)) (.int kd k) true).run P w = .ok (.tuple #[v, .bool true]) w := by
  have h2 : (Instr.findKey K (.int kd k) es.toList).run P w = .ok (some (i, v)) w := by
    simp [Instr.findKey, run_underlying hk, hf]
  simp [Instr.lookup, run_underlying hu, run_checkKey_int hk, h2, MapKept.run_getObj_map hb]

theorem run_lookup_none {P : Program} {T K E : TypeId} {kd : IntKind} (hu : P.underlying T = some (.map K E)) (hk : P.underlying K = some (.int kd)) (w : World) (r : Nat) (es : Array MapEntry) (clock : Nat) (k : Int) (z : Value)
    (hz : (zeroValue E).run P w = .ok z w) (hb : w.heap[r]? = some (.map es clock))
    (hf : Instr.findNow (.int kd) (.int kd k) es.toList 0 = some none) :
    (Instr.lookup T (.map (some r)) (.int kd k) true).run P w = .ok (.tuple #[z, .bool false]) w := by
  have h2 : (Instr.findKey K (.int kd k) es.toList).run P w = .ok none w := by
    simp [Instr.findKey, run_underlying hk, hf]
  simp [Instr.lookup, run_underlying hu, run_checkKey_int hk, h2, MapKept.run_getObj_map hb, hz]

end Go.Proofs.Ytjgmbgfcffnanac
