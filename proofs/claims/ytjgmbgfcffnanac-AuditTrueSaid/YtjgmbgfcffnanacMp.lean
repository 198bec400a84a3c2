/- Maps from int to int among what the call owns. No program. -/
import Derived.Test.YtjgmbgfcffnanacBr
import Derived.Maps.Own
import Derived.Maps.Views
import Derived.WideMake
namespace Go.Proofs.Ytjgmbgfcffnanac
open Go.RowKit

/- a block that is a map of at most n entries, which reads as f -/
def mapI (C : Cfg) (k e : TypeId) (n : Nat) (f : Int → Int) : Obj → Prop := fun o => ∀ (w : World) (b : Nat), w.heap[b]? = some o → ∃ D : DataW PUnit, w.ownsMap C.P k (plainElem C.P e) b n D ∧ Go.Maps.IsMap D ∧ ∀ x, -9223372036854775808 ≤ x → x ≤ 9223372036854775807 → D.atKey (.int .i64 x) (.lit (.int .i64 0)) = .lit (.int .i64 (f x))
theorem ownsMap_obj {H : Type} {P : Program} {k : TypeId} {R : Value → Option (DataW H × List MemPlace)} {w w' : World} {b b' n : Nat} {D : DataW H} {o : Obj} (h : w.ownsMap P k R b n D) (ho : w.heap[b]? = some o) (ho' : w'.heap[b']? = some o) : w'.ownsMap P k R b' n D := by
  obtain ⟨es, clock, h1, h2, h3, h4⟩ := h
  rw [ho] at h1
  injection h1 with h1
  subst h1
  exact ⟨es, clock, ho', h2, h3, h4⟩
section
variable {C : Cfg} {σ : Env} {H : List Ent} {fr : Nat} {d : Option Tmp} {ty : TypeId} {pos : String} {after : Array Edge} {gu : Option (Nat × Bool)}
theorem opa_makeMap {t k e : TypeId} : OpA C ⟨d, .makeMap t none, ty, pos, after, gu⟩ σ fr (.hd fr) (.obj (mapI C k e 0 (fun _ => 0))) := OpA.of rfl fun ρ μ a w hl ha hf => by
  have hrun : (execOp a.eval ⟨d, .makeMap t none, ty, pos, after, gu⟩).run C.P w = .ok (.value (.map (some w.heap.size))) (w.alloc (.map #[] 0)) := by
    simp [execOp, run_makeMap_plain]
  have hno : μ w.heap.size = none := by
    cases e : μ w.heap.size with
    | none => rfl
    | some c => exact absurd (ha.lt (b := w.heap.size) (by rw [e]; simp)) (Nat.lt_irrefl _)
  unfold Oper.wp
  rw [hrun]
  refine ⟨_, μ, rfl, by unfold SV.R; exact upd_at _ _ _, ⟨w.heap.size, _, upd_at _ _ _, heap_alloc_new w _, fun w' b' hb' => ?_, hno⟩, fun g hg => ?_, Stp.of_below ha ((Below.refl _ w).alloc (Nat.le_refl _) _)⟩
  · refine ⟨.map [], ownsMap_obj (World.ownsMap_made w C.P k _) (heap_alloc_new w _) hb', ?_, fun x _ _ => ?_⟩
    · exact ⟨_, rfl⟩
    · rfl
  · simp only [blk, Option.some.injEq] at hg; omega
theorem lit_wf {x : Int} (h0 : -9223372036854775808 ≤ x) (h1 : x ≤ 9223372036854775807) : (Lit.int .i64 x).wf = true := by
  have : wrap64 x = x := by unfold wrap64; omega
  rw [← this]; exact wrap64_wf x
theorem opr_lookup {t k e : TypeId} {m x : Go.Operand} {i n : Nat} {f : Int → Int} {key : Int} (ht : C.P.underlying t = some (.map k e)) (hk : C.P.underlying k = some (.int .i64)) (he : C.P.underlying e = some (.int .i64)) (hz : ∀ w, (zeroValue e).run C.P w = .ok (.int .i64 0) w)
    (hm : Ev σ m (.hd i)) (hx : Ev σ x (.im (IV.int key))) (hh : hget H i = some (.obj (mapI C k e n f))) (h0 : -9223372036854775808 ≤ key) (h1 : key ≤ 9223372036854775807) :
    OpR C ⟨d, .lookup t m x false, ty, pos, after, gu⟩ σ H (.im (IV.int (f key))) := OpR.read fun ρ μ a w hl ha hH => by
  have e1 := hm.at hl (by simp [Op.operands])
  have e2 := hx.val hl (by simp [Op.operands])
  unfold SV.R at e1
  obtain ⟨g, o, e3, e4, e5, _⟩ := hH.1 _ (hget_mem hh)
  rw [e3] at e1
  injection e1 with e1
  obtain ⟨D, r1, _, r3⟩ := e5 w g e4
  obtain ⟨c, q1, q2, _⟩ := r1.lookup_int (Go.Maps.int_keyed hk) ht he (hz w) (Go.Maps.keyOf_int_mk hk (lit_wf h0 h1))
  rw [r3 key h0 h1] at q2
  injection q2 with q2
  injection q2 with _ q2
  subst q2
  refine ⟨_, ?_, R_im.2 rfl⟩
  simp only [execOp, ← e1, e2]
  simp [q1]
def upI (f : Int → Int) (x v : Int) : Int → Int := fun y => if y = x then v else f y
theorem ope_mapUpdate {t k e : TypeId} {m x v : Go.Operand} {i n : Nat} {f : Int → Int} {key val : Int} (ht : C.P.underlying t = some (.map k e)) (hk : C.P.underlying k = some (.int .i64)) (he : C.P.underlying e = some (.int .i64))
    (hm : Ev σ m (.hd i)) (hx : Ev σ x (.im (IV.int key))) (hv : Ev σ v (.im (IV.int val))) (hh : hget H i = some (.obj (mapI C k e n f))) (hn : n < maxLen) (h0 : -9223372036854775808 ≤ key) (h1 : key ≤ 9223372036854775807) (h2 : -9223372036854775808 ≤ val) (h3 : val ≤ 9223372036854775807) :
    OpE C ⟨none, .mapUpdate t m x v, ty, pos, after, gu⟩ σ H fr (.im IV.any) (hset H i (.obj (mapI C k e (n + 1) (upI f key val)))) fr := fun ρ μ a w hl ha hH _ => by
  have e1 := hm.at hl (by simp [Op.operands])
  have e2 := hx.val hl (by simp [Op.operands])
  have e6 := hv.val hl (by simp [Op.operands])
  unfold SV.R at e1
  have hmem := hget_mem hh
  obtain ⟨g, o, e3, e4, e5, e7⟩ := hH.1 _ hmem
  rw [e3] at e1
  injection e1 with e1
  obtain ⟨D, r1, r2, r3⟩ := e5 w g e4
  obtain ⟨w', q1, q2, q3⟩ := r1.update (Go.Maps.int_keyed hk) ht hn (val := .int .i64 val) (Go.Maps.keyOf_int_mk hk (lit_wf h0 h1)) (plainElem_int he (lit_wf h2 h3))
  have hrun : (execOp a.eval ⟨none, .mapUpdate t m x v, ty, pos, after, gu⟩).run C.P w = .ok .skip w' := by
    simp only [execOp, ← e1, e2, e6]
    simp [q1]
  obtain ⟨o', ho'⟩ : ∃ o', w'.heap[g]? = some o' := by
    obtain ⟨es, clock, hb, _⟩ := q2
    exact ⟨_, hb⟩
  have heb : eb ρ (i, HObj.obj (mapI C k e n f)) g := eb_own (by simp [e3, blk])
  have hturn : Turned w w' (some g) := by
    exact ⟨q3.os, q3.tape, q3.output, q3.size, q3.block⟩
  have hnew : EntOk ρ μ w' (i, HObj.obj (mapI C k e (n + 1) (upI f key val))) := by
    refine ⟨g, o', e3, ho', fun w2 b2 hb2 => ⟨_, ownsMap_obj q2 ho' hb2, ?_, fun y hy0 hy1 => ?_⟩, e7⟩
    · obtain ⟨es, rfl⟩ := r2
      exact ⟨_, rfl⟩
    · unfold upI
      by_cases hy : y = key
      · subst hy
        rw [if_pos rfl]
        exact Go.Maps.atKey_put_same (k := .int .i64 y) r2 trivial _ _
      · rw [if_neg hy, Go.Maps.atKey_put_other (fun h => hy (by injection h)) _ _]
        exact r3 y hy0 hy1
  obtain ⟨k1, k2⟩ := heap_set hH ha hmem hturn (fun k hk => by injection hk with hk; rw [← hk]; exact heb) hnew rfl
  unfold Oper.wp
  rw [hrun]
  exact ⟨undef, μ, ρ, rfl, R_im.2 trivial, k1, Nms.le.refl _, fun j hj => .inl hj, k2⟩
end
end Go.Proofs.Ytjgmbgfcffnanac
