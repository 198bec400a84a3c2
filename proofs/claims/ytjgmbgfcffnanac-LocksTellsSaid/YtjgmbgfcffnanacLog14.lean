/- Rules for arrays behind pointers, boxes that turn. No program. -/
import Derived.Test.YtjgmbgfcffnanacLog13
namespace Go.Proofs.Ytjgmbgfcffnanac
open Go.RowKit

section
variable {C : Cfg} {σ : Env} {H : List Ent} {fr : Nat} {d : Option Tmp} {ty : TypeId} {pos : String} {after : Array Edge} {gu : Option (Nat × Bool)}
theorem opn_nilOff {x : Go.Operand} {i o : Nat} (hx : Ev σ x (.off i o)) : OpN C ⟨d, .nilCheck x, ty, pos, after, gu⟩ σ (.off i o) := OpN.pure fun ρ μ a w hl ha => by
  have h0 := hx.at hl (by simp [Op.operands])
  have h1 := h0
  unfold SV.R at h0
  obtain ⟨g, _, h2⟩ := h0
  refine ⟨a.eval x, ?_, h1⟩
  rw [h2]
  simp [execOp, h2]
theorem opn_nilPtr {x : Go.Operand} {l : List IV} (hx : Ev σ x (.im (IV.ptr l))) : OpN C ⟨d, .nilCheck x, ty, pos, after, gu⟩ σ (.im (IV.ptr l)) := OpN.pure fun ρ μ a w hl ha => by
  have h1 := hx.im hl (by simp [Op.operands])
  obtain ⟨b, o, h2, h3⟩ := h1
  refine ⟨a.eval x, ?_, R_im.2 ⟨b, o, h2, h3⟩⟩
  rw [h2]
  simp [execOp, h2]
def arE (C : Cfg) (t : TypeId) : Option (Nat × Nat) := match C.tt t with
  | some dt => match dt.und with
    | .array n e => match C.tt e with
      | some de => some (n, de.size)
      | none => none
    | _ => none
  | none => none
theorem arE_at {t : TypeId} {n k : Nat} (h : arE C t = some (n, k)) : ∃ e de, C.P.underlying t = some (.array n e) ∧ TyIs C.P e de ∧ de.size = k := by
  unfold arE at h
  cases h1 : C.tt t with
  | none => simp [h1] at h
  | some dt =>
    simp only [h1] at h
    have ht := C.ok _ _ h1
    cases h2 : dt.und with
    | array m e =>
      simp only [h2] at h
      cases h3 : C.tt e with
      | none => simp [h3] at h
      | some de =>
        simp only [h3, Option.some.injEq, Prod.mk.injEq] at h
        obtain ⟨rfl, rfl⟩ := h
        exact ⟨e, de, by rw [ht.1, h2], C.ok _ _ h3, rfl⟩
    | _ => simp [h2] at h
theorem run_indexArr {t : TypeId} {n k : Nat} (h : arE C t = some (n, k)) (w : World) (b o : Nat) (i : Int) (kd : IntKind) (h0 : 0 ≤ i) (h1 : i < n) :
    (Instr.indexAt t (.pointer (some ⟨b, o, none⟩)) (.int kd i)).run C.P w = .ok (.pointer (some ⟨b, o + i.toNat * k, none⟩)) w := by
  obtain ⟨e, de, h2, h3, rfl⟩ := arE_at h
  have h8 : (⟨b, o, none⟩ : Addr).add (i.toNat * de.size) = ⟨b, o + i.toNat * de.size, none⟩ := by by_cases h0 : i.toNat * de.size = 0 <;> simp [Addr.add, h0]
  simp [Instr.indexAt, Instr.sureAddr, asIntOf, Sem.run_bind, run_underlying h2, h0, h1, h3.size w, h8]
theorem opn_indexArr {t : TypeId} {x ix : Go.Operand} {n k r o : Nat} {i : Int} (hk : arE C t = some (n, k)) (hx : Ev σ x (.off r o)) (hi : Ev σ ix (.im (IV.int i))) (h0 : 0 ≤ i) (h1 : i < n) :
    OpN C ⟨d, .indexAddr t x ix, ty, pos, after, gu⟩ σ (.off r (o + i.toNat * k)) := OpN.pure fun ρ μ a w hl ha => by
  have h2 := hx.at hl (by simp [Op.operands])
  unfold SV.R at h2
  obtain ⟨g, h3, h4⟩ := h2
  have h6 := hi.val hl (by simp [Op.operands])
  refine ⟨_, ?_, by unfold SV.R; exact ⟨g, h3, rfl⟩⟩
  simp only [execOp, Sem.run_bind, h4, h6, run_indexArr hk w g o i .i64 h0 h1, Result.andThen_ok, Sem.run_pure]
theorem opn_indexArrI {t : TypeId} {x ix : Go.Operand} {n k : Nat} {l : List IV} {i : Int} (hk : arE C t = some (n, k)) (hx : Ev σ x (.im (IV.ptr l))) (hi : Ev σ ix (.im (IV.int i))) (h0 : 0 ≤ i) (h1 : i < n) :
    OpN C ⟨d, .indexAddr t x ix, ty, pos, after, gu⟩ σ (.im (IV.ptr (l.drop (i.toNat * k)))) := OpN.pure fun ρ μ a w hl ha => by
  have h2 := hx.im hl (by simp [Op.operands])
  obtain ⟨b, o, h3, h4⟩ := h2
  have h6 := hi.val hl (by simp [Op.operands])
  refine ⟨_, ?_, R_im.2 ⟨b, o + i.toNat * k, rfl, h4.drop _⟩⟩
  simp only [execOp, Sem.run_bind, h3, h6, run_indexArr hk w b o i .i64 h0 h1, Result.andThen_ok, Sem.run_pure]
theorem opn_buildA {t : TypeId} {dt : TyInf} {n : Nat} {e : TypeId} {de : TyInf} {k : Nat} {ps : List (Nat × Go.Operand)} {out : List SV} (ht : C.tt t = some dt) (hu : dt.und = .array n e) (he : C.tt e = some de) (hk : de.size = k) (h1 : oneB dt.zero.cells.toList = true) (hp : Parts σ (fun i => some (i * k, k)) (zeroS dt.zero) ps out) :
    OpN C ⟨d, .build t ps.toArray, ty, pos, after, gu⟩ σ (.agg out) := OpN.pure fun ρ μ a w hl ha => by
  have hT := C.ok _ _ ht
  have hE := C.ok _ _ he
  subst hk
  have hev : ∀ p ∈ ps, ∀ s, Ev σ p.2 s → SV.R ρ μ s (a.eval p.2) := fun p hp s hs => hs.at hl (by simp [Op.operands]; exact ⟨p.1, hp⟩)
  obtain ⟨us, h4, h5, h6⟩ := hp.fill (ρ := ρ) (μ := μ) (a := a) hev (zeroS_R _) (oneB_one h1)
  refine ⟨.agg us, ?_, by unfold SV.R; exact ⟨us.toList, by simp, h5, h6⟩⟩
  have h8 := hT.und w
  rw [hu] at h8
  simp only [execOp, Instr.build, Sem.run_bind, hT.zero w, Result.andThen_ok, h8, hE.size w]
  simp [h4]
theorem opa_box {t : TypeId} {x : Go.Operand} {s : SV} {l : List SV} (hx : Ev σ x s) (hc : Cs s l) : OpA C ⟨d, .box t x, ty, pos, after, gu⟩ σ fr (.off fr 0) (.blk t l) := fun ρ μ a w hl ha hf => by
  obtain ⟨h1, h2⟩ := hc ρ μ _ (hx.at hl (by simp [Op.operands]))
  have hno : μ w.heap.size = none := by
    cases e : μ w.heap.size with
    | none => rfl
    | some c => exact absurd (ha.lt (b := w.heap.size) (by rw [e]; simp)) (Nat.lt_irrefl _)
  have hrun : (execOp a.eval ⟨d, .box t x, ty, pos, after, gu⟩).run C.P w = .ok (.value (.pointer (some ⟨w.heap.size, 0, none⟩))) (w.alloc (.cells (a.eval x).cells t)) := by
    simp only [execOp, Instr.box, Sem.run_bind, run_newVar, Result.andThen_ok, Sem.run_pure]
  have hle : Nms.le ρ (upd ρ fr (.pointer (some ⟨w.heap.size, 0, none⟩))) := upd_le hf
  unfold Oper.wp
  rw [hrun]
  refine ⟨_, μ, rfl, ?_, ⟨w.heap.size, _, upd_at _ _ _, heap_alloc_new w _, h1.mono hle (Mem.le.refl _), hno, h2⟩, fun g hg => ?_, Stp.alloc ha _⟩
  · unfold SV.R; exact ⟨w.heap.size, by rw [upd_at]; rfl, rfl⟩
  · simp only [blk, Option.some.injEq] at hg; omega
theorem OpE.ofA {o : Oper} {s : SV} {ob : HObj} (h : OpA C o σ fr s ob) : OpE C o σ H fr s ((fr, ob) :: H) (fr + 1) := fun ρ μ a w hl ha hH hfree => by
  have h0 : ρ fr = none := hfree fr (Nat.le_refl _) (Nat.lt_succ_self _)
  refine Oper.wp_mono ?_ (h ρ μ a w hl ha h0)
  rintro a' w' ⟨v, μ', rfl, h1, h2, h3, h4⟩
  have hle := upd_le (v := v) h0
  have heb : eb (upd ρ fr v) (fr, ob) = blk v := by unfold eb; rw [upd_at]; rfl
  have hold : ∀ e ∈ H, eb (upd ρ fr v) e = eb ρ e := fun e he => eb_le hle (hH.1 e he).named
  have hH2 := (hH.stp h4).keep hle (Mem.le.refl _) (fun e he g hg => ⟨rfl, (((hH.stp h4).1 e he).lt hg).2⟩)
  have key : ∀ e ∈ H, ∀ g, blk v = some g → eb (upd ρ fr v) e ≠ some g := fun e hm g hg hg2 => by
    have h5 := h3 g hg
    rw [hold e hm] at hg2
    have h6 := ((hH.1 e hm).lt hg2).1
    omega
  refine ⟨v, μ', _, rfl, h1, ⟨fun e he => ?_, fun e he e' he' hne g hg hg2 => ?_⟩, hle, fun i hi => ?_, ⟨h4.below.os, h4.below.tape, h4.below.output, h4.below.size, fun k hk _ => h4.below.block k hk, h4.le, fun b hb => (h4.new b hb).imp id .inl, h4.agr, fun e he g hg => ?_⟩⟩
  · rcases List.mem_cons.1 he with rfl | he
    · exact h2
    · exact hH2.1 e he
  · rcases List.mem_cons.1 he with rfl | he
    · rcases List.mem_cons.1 he' with rfl | he'
      · exact hne rfl
      · rw [heb] at hg; exact key e' he' g hg hg2
    · rcases List.mem_cons.1 he' with rfl | he'
      · rw [heb] at hg2; exact key e he g hg2 hg
      · exact hH2.2 e he e' he' hne g hg hg2
  · unfold upd at hi
    by_cases e : i = fr
    · exact .inr ⟨by omega, by omega⟩
    · rw [if_neg e] at hi; exact .inl hi
  · rcases List.mem_cons.1 he with rfl | he
    · rw [heb] at hg; exact .inr (h3 g hg)
    · rw [hold e he] at hg; exact .inl ⟨e, he, hg⟩
end
end Go.Proofs.Ytjgmbgfcffnanac
