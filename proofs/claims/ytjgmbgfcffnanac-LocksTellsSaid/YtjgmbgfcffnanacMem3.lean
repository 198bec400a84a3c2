/- append onto a row of the call's own, the source a list that is read (nil, empty or not). No condition. -/
import Derived.Test.YtjgmbgfcffnanacTxn2
namespace Go.Proofs.Ytjgmbgfcffnanac
open Go.RowKit

theorem run_append_of_nil {P : Program} (w : World) (base : Nat) (t ty e : TypeId) (i : TypeInfo) (size : Nat) (ht : P.underlying t = some (.slice e)) (hi : P.info? e = some i)
    (v : Value) (n : Nat) (xs : List Value) (hown : w.ownsRow base e size v n xs) (c : Nat) : (Builtin.append_ #[t, t] ty #[v, .slice none 0 c]).run P w = .ok v w := by
  rcases hown.2 with ⟨rfl, rfl⟩ | ⟨g, cap, cur, rfl, _, _, hnc, _⟩
  · simp [Builtin.append_, run_underlying ht, sizeOf, typeInfo, hi, Builtin.lenOf, Builtin.firstCells]
  · simp [Builtin.append_, run_underlying ht, sizeOf, typeInfo, hi, Builtin.lenOf, Builtin.firstCells, hnc, storeCells]

section
variable {α : Type} {enc : α → List Value} {P : Program} {w : World}
theorem mem_flat {xs : List α} (h1 : ∀ x, ∀ u ∈ enc x, u.oneCell' = true) : ∀ u ∈ xs.flatMap enc, u.oneCell' = true := by
  intro u hu
  obtain ⟨x, _, hx⟩ := List.mem_flatMap.1 hu
  exact h1 x u hx
theorem flat_inv {k : Nat} (hk : ∀ x, (enc x).length = k) (hk0 : 0 < k) : ∀ (xs : List α) (j : Nat) (u : Value), (xs.flatMap enc)[j]? = some u → ∃ i x, xs[i]? = some x ∧ (enc x)[j % k]? = some u ∧ i = j / k := by
  intro xs
  induction xs with
  | nil => intro j u h; simp at h
  | cons y ys ih =>
    intro j u h
    rw [List.flatMap_cons] at h
    rcases Nat.lt_or_ge j k with hj | hj
    · rw [List.getElem?_append_left (by rw [hk]; exact hj)] at h
      exact ⟨0, y, rfl, by rw [Nat.mod_eq_of_lt hj]; exact h, by rw [Nat.div_eq_of_lt hj]⟩
    · rw [List.getElem?_append_right (by rw [hk]; exact hj), hk] at h
      obtain ⟨i, x, h1, h2, h3⟩ := ih _ _ h
      refine ⟨i + 1, x, by simpa using h1, ?_, ?_⟩
      · rw [Nat.mod_eq_sub_mod hj]; exact h2
      · rw [Nat.div_eq_sub_div hk0 hj, h3]

theorem run_append_rd (base : Nat) (t ty e : TypeId) (i : TypeInfo) (z : Value) (size bytes : Nat) (ht : P.underlying t = some (.slice e)) (hi : P.info? e = some i) (hz : i.zero = some z)
    (hsize : i.size = size) (hby : i.bytes = bytes) (hzs : z.cells.size = size) (hsz : 0 < size) (hk : ∀ x, (enc x).length = size) (h1 : ∀ x, ∀ u ∈ enc x, u.oneCell' = true)
    (v : Value) (xs : List α) (hown : Own e size enc w base v xs) (A : Option Addr) (m c : Nat) (ys : List α) (hr : Rd size enc w A m ys)
    (h63 : xs.length + m ≤ maxLen) (hbytes : (xs.length + m) * bytes ≤ 140737488355328) (hbase : base ≤ w.heap.size) :
    ∃ v' w', (Builtin.append_ #[t, t] ty #[v, .slice A m c]).run P w = .ok v' w' ∧ Own e size enc w' base v' (xs ++ ys) ∧ w.grownBy w' v.ownBlock := by
  obtain ⟨hm, hs⟩ := hr
  subst hm
  rcases A with _ | ad
  · rcases hs with rfl | ⟨b, o, hA, _⟩
    · exact ⟨v, w, run_append_of_nil w base t ty e i size ht hi v _ _ hown c, by simpa using hown, ⟨rfl, rfl, rfl, Nat.le_refl _, fun _ _ _ => rfl⟩⟩
    · cases hA
  · have hnews : ∀ j u, (ys.flatMap enc)[j]? = some u → w.cell? (ad.add j) = some u := by
      intro j u hu
      rcases hs with rfl | ⟨b, o, hA, hb, hc⟩
      · simp at hu
      · injection hA with hA
        subst hA
        obtain ⟨i', x, hx, hj, hij⟩ := flat_inv hk hsz ys j u hu
        have := hc i' x hx _ u hj
        have hadd : (⟨b, o, none⟩ : Addr).add j = ⟨b, o + j, none⟩ := by by_cases h0 : j = 0 <;> simp [Addr.add, h0]
        rw [hadd]
        have hj2 : i' * size + j % size = j := by rw [hij, Nat.mul_comm]; exact Nat.div_add_mod j size
        rw [Nat.add_assoc, hj2] at this
        exact this
    obtain ⟨v', w', hrun, h2, h3, _⟩ := run_append_own (P := P) w base t ty e i z size bytes ht hi hz hsize hby hzs hsz v _ _ hown ad ys.length c (ys.flatMap enc) (flat_length hk ys) hnews (mem_flat h1) h63 hbytes hbase
    exact ⟨v', w', hrun, Own.more h2 rfl, h3⟩

theorem wpList_append_rd {ops : Array Oper} {rest : List Oper} {o : Oper} {a : Act} {Q : Exit → Act → World → Prop} (hgd : o.guard = none) (s x : _root_.Go.Operand) (t : TypeId)
    (ho : o.op = .call { callee := .builtin .append, args := #[s, x], argTypes := #[t, t] })
    (base : Nat) (e : TypeId) (i : TypeInfo) (z : Value) (size bytes : Nat) (ht : P.underlying t = some (.slice e)) (hi : P.info? e = some i) (hz : i.zero = some z)
    (hsize : i.size = size) (hby : i.bytes = bytes) (hzs : z.cells.size = size) (hsz : 0 < size) (hk : ∀ x, (enc x).length = size) (h1 : ∀ x, ∀ u ∈ enc x, u.oneCell' = true)
    (v : Value) (xs : List α) (hs : a.eval s = v) (hown : Own e size enc w base v xs) (A : Option Addr) (m c : Nat) (ys : List α) (hx : a.eval x = .slice A m c) (hr : Rd size enc w A m ys)
    (h63 : xs.length + m ≤ maxLen) (hbytes : (xs.length + m) * bytes ≤ 140737488355328) (hbase : base ≤ w.heap.size)
    (h : ∀ v' w', Own e size enc w' base v' (xs ++ ys) → w.grownBy w' v.ownBlock → wpList P ops Q rest (a.put o.dst v') w') : wpList P ops Q (o :: rest) a w := by
  obtain ⟨v', w', hrun, h2, h3⟩ := run_append_rd (P := P) base t o.type e i z size bytes ht hi hz hsize hby hzs hsz hk h1 v xs hown A m c ys hr h63 hbytes hbase
  refine wpList_plain hgd fun K hK => ?_
  unfold Oper.wp execOp
  simp only [ho, resolve, invoke, builtin, Sem.run_bind, Sem.run_pure, Result.andThen_ok, List.map_toArray, List.map_cons, List.map_nil, hs, hx, hrun]
  exact hK _ _ (h v' w' h2 h3)
end

theorem oneI (x : Int) : ∀ u ∈ encI x, u.oneCell' = true := by simp [encI, Value.oneCell']
theorem oneG (x : Guard) : ∀ u ∈ encG x, u.oneCell' = true := by simp [encG, Value.oneCell']
theorem oneS (x : SetT) : ∀ u ∈ encS x, u.oneCell' = true := by simp [encS, Value.oneCell']

end Go.Proofs.Ytjgmbgfcffnanac
