/- The logic's further rules: slicing, make, remainders, bools. Over any program. No condition. -/
import Derived.Test.YtjgmbgfcffnanacLog9
import Derived.Laws.OwnMore
import Derived.Laws.StructEq
namespace Go.Proofs.Ytjgmbgfcffnanac
open Go.RowKit

section
variable {C : Cfg} {σ : Env} {d : Option Tmp} {ty : TypeId} {pos : String} {after : Array Edge} {gu : Option (Nat × Bool)} {H : List Ent} {fr : Nat}

def undB (C : Cfg) (t : TypeId) : Bool := match C.tt t with
  | some dt => match dt.und with
    | .bool => true
    | _ => false
  | none => false
theorem undB_at {t : TypeId} (h : undB C t = true) : C.P.underlying t = some .bool := by
  unfold undB at h
  cases h1 : C.tt t with
  | none => simp [h1] at h
  | some dt =>
    simp only [h1] at h
    have ht := C.ok _ _ h1
    cases h2 : dt.und <;> simp [h2] at h
    rw [ht.1, h2]
def cmpB : BinOp → Bool → Bool → Option Bool
  | .eql, a, b => some (a == b)
  | .neq, a, b => some (a != b)
  | _, _, _ => none
theorem opn_cmpB {op : BinOp} {t t' : TypeId} {x y : Operand} {a b c : Bool} (ht : undB C t = true) (hx : Ev σ x (.im (IV.bool a))) (hy : Ev σ y (.im (IV.bool b))) (hc : cmpB op a b = some c) : OpN C ⟨d, .binOp op t x y t', ty, pos, after, gu⟩ σ (.im (IV.bool c)) := OpN.pure fun ρ μ ac w hl ha => by
  have h1 := hx.val hl (by simp [Op.operands])
  have h2 := hy.val hl (by simp [Op.operands])
  have h3 := undB_at ht
  refine ⟨_, ?_, R_im.2 rfl⟩
  have hg : ∀ op, (eqGuard op t x y (.bool a) (.bool b)).run C.P w = .ok () w := by intro op; unfold eqGuard; cases op <;> simp
  have he : (Op.equal t (.bool a) (.bool b)).run C.P w = .ok (a == b) w := run_equalIn_bool' w 9999 t a b h3
  cases op with
  | eql =>
    simp only [cmpB, Option.some.injEq] at hc; subst hc
    simp only [execOp, h1, h2, Sem.run_bind, hg, Result.andThen_ok, binOp, he, Sem.run_pure]
  | neq =>
    simp only [cmpB, Option.some.injEq] at hc; subst hc
    simp only [execOp, h1, h2, Sem.run_bind, hg, Result.andThen_ok, binOp, he, Sem.run_pure]
    rfl
  | _ => simp [cmpB] at hc
theorem opn_rem {t t' : TypeId} {x y : Operand} {a b : Int} (hx : Ev σ x (.im (IV.int a))) (hy : Ev σ y (.im (IV.int b))) (h0 : 0 ≤ a) (h1 : 0 < b) : OpN C ⟨d, .binOp .rem t x y t', ty, pos, after, gu⟩ σ (.im (IV.int (a % b))) := OpN.pure fun ρ μ ac w hl ha => by
  have h2 := hx.val hl (by simp [Op.operands])
  have h3 := hy.val hl (by simp [Op.operands])
  refine ⟨_, ?_, R_im.2 rfl⟩
  have hb : ¬ b = 0 := by omega
  have he : a.tmod b = a % b := Int.tmod_eq_emod_of_nonneg h0
  simp [execOp, h2, h3, run_eqGuard_int, binOp, Op.intDiv, hb, he]
theorem opn_lenNil {t : TypeId} {x : Operand} {k' c : Nat} (hk : slE C t = some k') (hx : Ev σ x (.im (IV.val (.slice none 0 c)))) : OpN C ⟨d, .call { callee := .builtin .len, args := #[x], argTypes := #[t] }, ty, pos, after, gu⟩ σ (.im (IV.int 0)) := OpN.pure fun ρ μ a w hl ha => by
  have h1 := hx.val hl (by simp [Op.operands, Call.operands])
  obtain ⟨e, de, h9, _, _⟩ := slE_at hk
  refine ⟨_, ?_, R_im.2 rfl⟩
  simp [execOp, resolve, invoke, builtin, h1, Builtin.len_, goInt, run_underlying h9]

/- a slice of a slice that is read -/
def Bd (σ : Env) (o : Option Operand) (dflt n : Nat) : Prop := match o with
  | none => n = dflt
  | some x => Ev σ x (.im (IV.int n))
theorem Bd.none {n : Nat} : Bd σ none n n := rfl
theorem Bd.some {x : Operand} {m n : Nat} (h : Ev σ x (.im (IV.int n))) : Bd σ (some x) m n := h
theorem view_cut {α : Type} {μ : Mem} {k : Nat} {enc : α → List IV} {xs : List α} {A : Option Addr} {c lo hi : Nat} (h0 : lo ≤ hi) (h1 : hi ≤ xs.length) (hc : xs.length ≤ c) (hm : c ≤ maxLen) (h : xs = [] ∨ ∃ b o, A = some ⟨b, o, none⟩ ∧ ∀ i x, xs[i]? = some x → Cells μ b (o + i * k) (enc x)) :
    (IV.view k enc ((xs.take hi).drop lo)).p μ (.slice (if c = lo then A else A.map (·.add (lo * k))) (hi - lo) (c - lo)) := by
  have hl : ((xs.take hi).drop lo).length = hi - lo := by rw [List.length_drop, List.length_take]; omega
  refine ⟨_, _, by rw [hl], by rw [hl]; omega, by omega, ?_⟩
  by_cases he : lo = hi
  · exact .inl (List.eq_nil_of_length_eq_zero (by rw [hl]; omega))
  · rcases h with rfl | ⟨b, o, rfl, h⟩
    · simp at h1; omega
    · refine .inr ⟨b, o + lo * k, ?_, fun i x hx => ?_⟩
      · rw [if_neg (by omega)]
        by_cases h3 : lo * k = 0 <;> simp [Addr.add, h3]
      · rw [List.getElem?_drop, List.getElem?_take] at hx
        split at hx
        · have := h _ x hx
          rw [show o + lo * k + i * k = o + (lo + i) * k by rw [Nat.add_mul]; omega]; exact this
        · cases hx
theorem opn_slice {α : Type} {t : TypeId} {x : Operand} {lo hi : Option Operand} {k : Nat} {enc : α → List IV} {xs : List α} {l h : Nat} (hk : slE C t = some k) (hx : Ev σ x (.im (IV.view k enc xs))) (hlo : Bd σ lo 0 l) (hhi : Bd σ hi xs.length h) (h0 : l ≤ h) (h1 : h ≤ xs.length) :
    OpN C ⟨d, .slice t x lo hi none, ty, pos, after, gu⟩ σ (.im (IV.view k enc ((xs.take h).drop l))) := OpN.pure fun ρ μ a w hl ha => by
  obtain ⟨A, c, e, hc, hm, hv⟩ := hx.im hl (by simp [Op.operands])
  obtain ⟨el, de, hu, hT, hsz⟩ := slE_at hk
  refine ⟨_, ?_, R_im.2 (view_cut h0 h1 hc hm hv)⟩
  have hlen : ∀ n : Nat, (0 : Int) ≤ (n : Int) := fun n => by omega
  cases hi with
  | none =>
    cases lo with
    | none =>
      simp only [Bd] at hlo hhi
      subst hlo hhi
      simp [execOp, Instr.sliceAt, Instr.slice, Instr.sliceBounds, Instr.sliceBound, asIntOf, e, run_underlying hu, hT.size w, hsz]
    | some y =>
      simp only [Bd] at hhi
      subst hhi
      have h2 : a.eval y = .int .i64 (l : Int) := Ev.val (hlo : Ev σ y (.im (IV.int l))) hl (by simp [Op.operands])
      have h3 : (l : Int) ≤ (xs.length : Int) := by omega
      simp [execOp, Instr.sliceAt, Instr.slice, Instr.sliceBounds, Instr.sliceBound, asIntOf, e, run_underlying hu, hT.size w, hsz, h2, h0]
  | some z =>
    have h4 : a.eval z = .int .i64 (h : Int) := Ev.val (hhi : Ev σ z (.im (IV.int h))) hl (by simp [Op.operands])
    have h5 : (h : Int) ≤ (c : Int) := by omega
    have h5' : h ≤ c := by omega
    cases lo with
    | none =>
      simp only [Bd] at hlo
      subst hlo
      simp [execOp, Instr.sliceAt, Instr.slice, Instr.sliceBounds, Instr.sliceBound, asIntOf, e, run_underlying hu, hT.size w, hsz, h4, h5']
    | some y =>
      have h2 : a.eval y = .int .i64 (l : Int) := Ev.val (hlo : Ev σ y (.im (IV.int l))) hl (by simp [Op.operands])
      simp [execOp, Instr.sliceAt, Instr.slice, Instr.sliceBounds, Instr.sliceBound, asIntOf, e, run_underlying hu, hT.size w, hsz, h2, h4, h5', h0]

theorem opn_indexRow1 {t : TypeId} {x ix : Operand} {r n : Nat} {i : Int} (hk : slE C t = some 1) (hx : Ev σ x (.row r n)) (hi : Ev σ ix (.im (IV.int i))) (h0 : 0 ≤ i) (h1 : i < n) : OpN C ⟨d, .indexAddr t x ix, ty, pos, after, gu⟩ σ (.off r i.toNat) := by
  have := opn_indexRow (d := d) (ty := ty) (pos := pos) (after := after) (gu := gu) hk hx hi h0 h1
  rwa [Nat.mul_one] at this
/- make -/
theorem opa_make {α : Type} {t et : TypeId} {x y : Operand} {de : TyInf} {n k b : Nat} {enc : α → List IV} (z : α) (hT : slT C t = some (et, de)) (hk : de.size = k) (hkk : ∀ a, (enc a).length = k) (hz : enc z = de.zero.cells.toList.map IV.val) (hzs : Nat.beq de.zero.cells.size k = true) (h1 : oneB de.zero.cells.toList = true)
    (hx : Ev σ x (.im (IV.int n))) (hy : Ev σ y (.im (IV.int n))) (hbb : de.bytes = b) (hb0 : b * n ≤ 281474976710656) (hm : n ≤ 4611686018427387904) :
    OpA C ⟨d, .makeSlice t x y, ty, pos, after, gu⟩ σ fr (.row fr n) (.row et k enc (List.replicate n z)) := fun ρ μ a w hl ha hf => by
  obtain ⟨hu, hTe⟩ := slT_at hT
  have hb : de.bytes * n ≤ 281474976710656 := by rw [hbb]; exact hb0
  have hTe0 := hTe
  obtain ⟨_, i, hi, hz0, hs, hby⟩ := hTe
  subst hk
  have h2 := hx.val hl (by simp [Op.operands])
  have h3 := hy.val hl (by simp [Op.operands])
  obtain ⟨w', hr, ho, hg⟩ := run_make_full (P := C.P) w 0 t et i de.zero de.size hu hi hz0 hs .i64 .i64 n (by rw [hby]; exact hb) (by simp only [maxLen]; omega) (Nat.zero_le _)
  have hrun : (execOp a.eval ⟨d, .makeSlice t x y, ty, pos, after, gu⟩).run C.P w = .ok (.value (.slice (some ⟨w.heap.size, 0, none⟩) n n)) w' := by
    simp only [execOp, h2, h3, Sem.run_bind, hr, Result.andThen_ok, Sem.run_pure]
  have hno : μ w.heap.size = none := by
    cases e : μ w.heap.size with
    | none => rfl
    | some c => exact absurd (ha.lt (b := w.heap.size) (by rw [e]; simp)) (Nat.lt_irrefl _)
  have hzl : de.zero.cells.size = de.size := Nat.eq_of_beq_eq_true hzs
  have hcells : ∀ n, IVs μ ((List.replicate n z).flatMap enc) (madeCells de.zero.cells (n * de.size)).toList ∧ One (madeCells de.zero.cells (n * de.size)).toList := by
    intro n
    have h4 : (madeCells de.zero.cells (n * de.size)).toList = (List.range (n * de.size)).map (fun j => de.zero.cells[j % de.zero.cells.size]!) := by simp [madeCells]
    have h5 : ∀ n, (List.range (n * de.size)).map (fun j => de.zero.cells[j % de.zero.cells.size]!) = (List.replicate n de.zero.cells.toList).flatten := by
      intro n
      induction n with
      | zero => simp
      | succ n ih =>
        rw [List.replicate_succ', List.flatten_append, ← ih, Nat.add_mul, Nat.one_mul, List.range_add, List.map_append]
        congr 1
        simp only [List.flatten_cons, List.flatten_nil, List.append_nil, List.map_map]
        apply List.ext_getElem?
        intro j
        rw [List.getElem?_map]
        by_cases hj : j < de.size
        · rw [List.getElem?_range hj]
          simp only [Option.map_some, Function.comp]
          rw [hzl, Nat.mul_add_mod_self_right, Nat.mod_eq_of_lt hj, getElem!_pos de.zero.cells j (by omega)]
          rw [Array.getElem?_toList, Array.getElem?_eq_getElem (by omega)]
        · rw [List.getElem?_eq_none (by simpa using hj), List.getElem?_eq_none (by simp [hzl]; omega)]; rfl
    rw [h4, h5]
    clear h4
    have h6 : IVs μ (enc z) de.zero.cells.toList := by
      rw [hz]
      have : ∀ us : List Value, IVs μ (us.map IV.val) us := fun us => by
        induction us with
        | nil => rfl
        | cons u us ih => exact ⟨u, us, rfl, rfl, ih⟩
      exact this _
    induction n with
    | zero => exact ⟨rfl, fun u hu => by simp at hu⟩
    | succ n ih =>
      rw [List.replicate_succ, List.replicate_succ, List.flatMap_cons, List.flatten_cons]
      exact ⟨h6.append ih.1, (oneB_one h1).append ih.2⟩
  unfold Oper.wp
  rw [hrun]
  refine ⟨_, μ, rfl, ?_, ⟨_, _, upd_at _ _ _, by rw [List.length_replicate]; exact ho, (hcells n).1, hkk, fun g hg2 => ?_, (hcells n).2⟩, fun g hg2 => ?_, ⟨⟨hg.os, hg.tape, hg.output, hg.size, fun k hk => hg.block k hk (by simp)⟩, Mem.le.refl _, fun b hb => .inl hb, ?_⟩⟩
  · unfold SV.R; exact ⟨upd_at _ _ _, _, n, rfl, .inr ⟨_, rfl⟩⟩
  · simp only [Value.ownBlock, Option.some.injEq] at hg2; subst hg2; exact hno
  · simp only [blk, Option.some.injEq] at hg2; omega
  · intro b cs hb2
    obtain ⟨t', fz, hh⟩ := ha b cs hb2
    exact ⟨t', fz, (hg.block b (Array.getElem?_eq_some_iff.1 hh).1 (by simp)).trans hh⟩
end

/- two ways meet again -/
theorem WP.join {C : Cfg} {F : Fx} {nt : Nat} {Q : Exit → St → Prop} {x : St} {t : Nat} {c d e : Code} {b : Bool} (z : St) (hb : lk x.σ t = some (.im (IV.bool b))) (h1 : b = true → WP C F nt c (XThen (fun y => Shift F nt y z) Q) x) (h2 : b = false → WP C F nt d (XThen (fun y => Shift F nt y z) Q) x) (k : WP C F nt e Q z) :
    WP C F nt (.seq (.cond (.tmp t) c d) e) Q x := by
  refine WP.seq (WP.cond hb (fun h => ?_) (fun h => ?_))
  all_goals
    intro μ ρ a w hi
    first
      | refine wp_mono (h1 h μ ρ a w hi) ?_
      | refine wp_mono (h2 h μ ρ a w hi) ?_
    rintro ex a' w' ⟨y, μ', ρ', hq, hy⟩
    cases ex with
    | normal => obtain ⟨μ2, ρ2, h3⟩ := hq _ _ _ _ hy; exact ⟨z, μ2, ρ2, k, h3⟩
    | _ => exact ⟨y, μ', ρ', hq, hy⟩
/- what follows may be shown for another state -/
theorem WP.qshift {C : Cfg} {F : Fx} {nt : Nat} {Q : Exit → St → Prop} {K : St → Prop} {x : St} {c : Code} (z : St) (h : WP C F nt c (XThen (fun y => Shift F nt y z) Q) x) (k : K z) : WP C F nt c (XThen K Q) x := fun μ ρ a w hi => wp_mono (h μ ρ a w hi) fun ex a' w' ⟨y, μ', ρ', hq, hy⟩ => by
  cases ex with
  | normal => obtain ⟨μ2, ρ2, h3⟩ := hq _ _ _ _ hy; exact ⟨z, μ2, ρ2, k, h3⟩
  | _ => exact ⟨y, μ', ρ', hq, hy⟩
end Go.Proofs.Ytjgmbgfcffnanac
