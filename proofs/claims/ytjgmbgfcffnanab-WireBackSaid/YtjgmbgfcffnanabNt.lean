/- What is appended to an empty literal. No program. -/
import Derived.Test.YtjgmbgfcffnanabNs
namespace Go.Proofs.Ytjgmbgfcffnanab
open Go.RowKit

section
variable {C : Cfg} {σ : Env} {H : List Ent} {fr : Nat} {d : Option Tmp} {ty : TypeId} {pos : String} {after : Array Edge} {gu : Option (Nat × Bool)}
theorem run_app_same {P : Program} (w : World) (t ty e : TypeId) (de : TyInf) (ht : P.underlying t = some (.slice e)) (hT : TyIs P e de) (b : Addr) (a : Addr) (m c : Nat) (news : List Value) (hl : news.length = m * de.size) (hnews : ∀ j u, news[j]? = some u → w.cell? (a.add j) = some u) (h0 : 0 < m) (h63 : m ≤ 9223372036854775807) (hb : m * de.bytes ≤ 140737488355328) :
    (Builtin.append_ #[t, t] ty #[.slice (some b) 0 0, .slice (some a) m c]).run P w = (Builtin.append_ #[t, t] ty #[.slice none 0 0, .slice (some a) m c]).run P w := by
  obtain ⟨_, i, hi, hz, hs, hby⟩ := hT
  rw [← hby] at hb
  rw [run_append_nil (P := P) w t ty e i de.zero ht hi hz a m c news (by rw [hs]; exact hl) hnews h0 (by omega) (by omega)]
  have := run_append_grow (P := P) w t ty e i de.zero ht hi hz b 0 0 [] (by simp) (fun j u h => by simp at h) a m c news (by rw [hs]; exact hl) hnews (by omega) (by omega) (growslice_fits (by omega) (by rw [Nat.zero_add]; exact hb))
  rw [this]
  simp only [Nat.zero_add]
  congr 3
  simp
theorem opa_appendNew {α β : Type} {t et : TypeId} {x y : Go.Operand} {de : TyInf} {k b : Nat} {enc : α → List IV} {enc0 : β → List IV} {ys0 : List β} (ys : List α) (hT : slT C t = some (et, de)) (hk : de.size = k) (hz : Nat.beq de.zero.cells.size k = true) (hk0 : Nat.blt 0 k = true) (hby : de.bytes = b) (hkk : ∀ a, (enc a).length = k)
    (hx : Ev σ x (.pk 0 [])) (hy : Ev σ y (.im (IV.view k enc0 ys0))) (hm : ys0.map enc0 = ys.map enc) (hne : ys ≠ []) (hb : ys.length * b ≤ 140737488355328) (hb0 : Nat.blt 0 b = true) :
    OpA C ⟨d, .call { callee := .builtin .append, args := #[x, y], argTypes := #[t, t] }, ty, pos, after, gu⟩ σ fr (.row fr ys.length) (.row et k enc ys) := OpA.of rfl fun ρ μ a w hl ha hfr => by
  have h0 := hx.at hl (by simp [Op.operands, Call.operands])
  unfold SV.R at h0
  obtain ⟨bb, vs0, h1, _⟩ := h0
  obtain ⟨hu, hTe⟩ := slT_at hT
  subst hk hby
  have hlys : ys0.length = ys.length := by have := congrArg List.length hm; simpa using this
  have hpos : 0 < ys.length := List.length_pos_iff.2 hne
  obtain ⟨A, c, h9, hc1, hc2, h10⟩ := hy.im hl (by simp [Op.operands, Call.operands])
  obtain ⟨bA, oA, rfl, h10b⟩ := h10.resolve_left (fun e => by rw [e] at hlys; simp at hlys; omega)
  have hmap : ∀ i z, ys[i]? = some z → Cells μ bA (oA + i * de.size) (enc z) := fun i z hz => by
    have h11 : (ys0.map enc0)[i]? = some (enc z) := by rw [hm, List.getElem?_map, hz]; rfl
    rw [List.getElem?_map, Option.map_eq_some_iff] at h11
    obtain ⟨z0, h12, h13⟩ := h11
    rw [← h13]; exact h10b i z0 h12
  obtain ⟨news, h11, h12, h13, h14⟩ := view_vals ha hkk hmap
  have hnews : ∀ j u, news[j]? = some u → w.cell? ((⟨bA, oA, none⟩ : Addr).add j) = some u := fun j u hj => by
    have := h14 j u hj
    by_cases h0 : j = 0 <;> simp [Addr.add, h0] <;> simpa [h0] using this
  have hbb : ys.length ≤ 140737488355328 := by
    have h15 : 0 < de.bytes := Nat.blt_eq ▸ hb0
    exact Nat.le_trans (Nat.le_mul_of_pos_right _ h15) hb
  obtain ⟨v', w', hr, h15, h16, h17⟩ := run_app (P := C.P) w t ty et de hu hTe (Nat.eq_of_beq_eq_true hz) (Nat.blt_eq ▸ hk0) (.slice none 0 0) 0 [] (World.ownsRow_nil _ _ _ _) (some ⟨bA, oA, none⟩) ys.length c news h13 (.inr ⟨_, rfl, hnews⟩) h12 (by simp only [maxLen]; omega) (by rw [Nat.zero_add]; exact hb)
  rw [Nat.zero_add, List.nil_append] at h15
  have hsame := run_app_same (P := C.P) w t ty et de hu hTe ⟨bb, 0, none⟩ ⟨bA, oA, none⟩ ys.length c news h13 hnews hpos (by omega) hb
  have hrun : (execOp a.eval ⟨d, .call { callee := .builtin .append, args := #[x, y], argTypes := #[t, t] }, ty, pos, after, gu⟩).run C.P w = .ok (.value v') w' := by
    rw [hlys] at h9
    simp only [execOp, resolve, invoke, builtin, Sem.run_bind, Sem.run_pure, Result.andThen_ok, List.map_toArray, List.map_cons, List.map_nil, h1, h9, hsame, hr]
  have hnb : ∀ g, v'.ownBlock = some g → g = w.heap.size := fun g hg => by
    rcases h17 with h17 | h17
    · rw [h17] at hg; cases hg
    · rw [h17] at hg; injection hg with hg; exact hg.symm
  have hno : μ w.heap.size = none := by
    cases e : μ w.heap.size with
    | none => rfl
    | some q => exact absurd (ha.lt (b := w.heap.size) (by rw [e]; simp)) (Nat.lt_irrefl _)
  have hbelow : Below w.heap.size w w' := ⟨h16.os, h16.tape, h16.output, h16.size, fun k hk => h16.block k hk (by simp [Value.ownBlock])⟩
  unfold Oper.wp
  rw [hrun]
  refine ⟨v', μ, rfl, ?_, ⟨v', news, upd_at _ _ _, h15, h11, hkk, fun g hg => by rw [hnb g hg]; exact hno, h12⟩, fun g hg => ?_, ⟨hbelow, Mem.le.refl _, fun _ h => .inl h, fun b cs hb => ?_⟩⟩
  · unfold SV.R
    refine ⟨upd_at _ _ _, ?_⟩
    rcases h15.2 with ⟨rfl, hn⟩ | ⟨g, cap, cur, rfl, _⟩
    · exact ⟨none, 0, by rw [hn], .inl hn⟩
    · exact ⟨_, cap, rfl, .inr ⟨g, rfl⟩⟩
  · rw [ownsRow_blk h15] at hg
    rw [hnb g hg]
    exact Nat.le_refl _
  · obtain ⟨t', fz, hh⟩ := ha b cs hb
    exact ⟨t', fz, (hbelow.block b (Array.getElem?_eq_some_iff.1 hh).1).trans hh⟩
theorem opn_appendEmp {β : Type} {t et : TypeId} {x y : Go.Operand} {de : TyInf} {r k : Nat} {enc0 : β → List IV} (hT : slT C t = some (et, de)) (hx : Ev σ x (.row r 0)) (hy : Ev σ y (.im (IV.view k enc0 []))) :
    OpN C ⟨d, .call { callee := .builtin .append, args := #[x, y], argTypes := #[t, t] }, ty, pos, after, gu⟩ σ (.row r 0) := OpN.pure fun ρ μ a w hl ha => by
  have h0 := hx.at hl (by simp [Op.operands, Call.operands])
  have h0' := h0
  unfold SV.R at h0'
  obtain ⟨_, A0, c0, h2, _⟩ := h0'
  obtain ⟨hu, hTe⟩ := slT_at hT
  obtain ⟨_, i, hi, hz, hs, hby⟩ := hTe
  obtain ⟨A, c, h9, _, _, _⟩ := hy.im hl (by simp [Op.operands, Call.operands])
  refine ⟨a.eval x, ?_, h0⟩
  have : (Builtin.append_ #[t, t] ty #[.slice A0 0 c0, .slice A 0 c]).run C.P w = .ok (.slice A0 0 c0) w := by
    cases A0 with
    | none => cases A <;> simp [Builtin.append_, run_underlying hu, sizeOf, typeInfo, hi, Builtin.lenOf, Builtin.firstCells, loadCells, loadCellsFrom, storeCells]
    | some a0 => cases A <;> simp [Builtin.append_, run_underlying hu, sizeOf, typeInfo, hi, Builtin.lenOf, Builtin.firstCells, loadCells, loadCellsFrom, storeCells]
  simp only [execOp, resolve, invoke, builtin, Sem.run_bind, Sem.run_pure, Result.andThen_ok, List.map_toArray, List.map_cons, List.map_nil, h2]
  rw [show (([] : List β).length) = 0 from rfl] at h9
  simp only [h9, this, Result.andThen_ok, Sem.run_pure]
end
end Go.Proofs.Ytjgmbgfcffnanab
