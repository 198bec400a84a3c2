/- More rules: empty literals as rows, nil rows in cells, evidence of arguments that a callee turns. No program. -/
import Derived.Test.YtjgmbgfcffnanaaLog12
namespace Go.Proofs.Ytjgmbgfcffnanaa
open Go.RowKit

section
variable {C : Cfg} {σ : Env} {H : List Ent} {fr : Nat} {d : Option Tmp} {ty : TypeId} {pos : String} {after : Array Edge} {gu : Option (Nat × Bool)}
theorem opa_slit0 {α : Type} {t et : TypeId} {de : TyInf} {k : Nat} (enc : α → List IV) (hT : slT C t = some (et, de)) (hk : de.size = k) (hkk : ∀ a, (enc a).length = k) : OpA C ⟨d, .buildSlice t 0 #[], ty, pos, after, gu⟩ σ fr (.row fr 0) (.row et k enc []) := fun ρ μ a w hl ha hf => by
  obtain ⟨hu, hTe⟩ := slT_at hT
  subst hk
  have hrun : (execOp a.eval ⟨d, .buildSlice t 0 #[], ty, pos, after, gu⟩).run C.P w = .ok (.value (.slice (some ⟨w.heap.size, 0, none⟩) 0 0)) (w.alloc (.cells #[] et)) := by
    simp only [execOp, Instr.buildSlice, Sem.run_bind, run_underlying hu, Result.andThen_ok, hTe.size w]
    rw [if_neg (by omega)]
    have hr0 : (Array.range 0 : Array Nat) = #[] := by simp
    simp [newRow, newObj, hr0, Instr.fill]
    simp [Sem.run]
  have hs := Stp.alloc (μ := μ) ha (.cells #[] et)
  have hno : μ w.heap.size = none := by
    cases e : μ w.heap.size with
    | none => rfl
    | some c => exact absurd (ha.lt (b := w.heap.size) (by rw [e]; simp)) (Nat.lt_irrefl _)
  unfold Oper.wp
  rw [hrun]
  refine ⟨_, μ, rfl, ?_, ⟨_, [], upd_at _ _ _, ⟨by simp, .inr ⟨w.heap.size, 0, #[], rfl, Nat.zero_le _, heap_alloc_new w _, Nat.le_refl _, by simp [maxLen], by simp, by simp⟩⟩, rfl, hkk, fun g hg => ?_, fun u hu => by cases hu⟩, fun g hg => ?_, hs⟩
  · unfold SV.R; exact ⟨upd_at _ _ _, _, 0, rfl, .inl rfl⟩
  · simp only [Value.ownBlock, Option.some.injEq] at hg; subst hg; exact hno
  · simp only [blk, Option.some.injEq] at hg; omega

theorem opn_pick_andP {c x y : Go.Operand} {b b' : Bool} (hc : Ev σ c (.im (IV.bool b))) (hx : Ev σ x (.im (IV.bool b'))) (hy : Ev σ y (.im (IV.bool false))) : OpN C ⟨d, .pick c x y, ty, pos, after, gu⟩ σ (.im (IV.bool (b && b'))) := OpN.pure fun ρ μ a w hl ha => by
  have h1 := hc.val hl (by simp [Op.operands])
  have h2 := hx.val hl (by simp [Op.operands])
  have h3 := hy.val hl (by simp [Op.operands])
  refine ⟨_, by simp [execOp, h1, asBool]; rfl, R_im.2 ?_⟩
  cases b with
  | true => exact h2
  | false => exact h3
theorem opn_pick_orP {c x y : Go.Operand} {b b' : Bool} (hc : Ev σ c (.im (IV.bool b))) (hx : Ev σ x (.im (IV.bool true))) (hy : Ev σ y (.im (IV.bool b'))) : OpN C ⟨d, .pick c x y, ty, pos, after, gu⟩ σ (.im (IV.bool (b || b'))) := OpN.pure fun ρ μ a w hl ha => by
  have h1 := hc.val hl (by simp [Op.operands])
  have h2 := hx.val hl (by simp [Op.operands])
  have h3 := hy.val hl (by simp [Op.operands])
  refine ⟨_, by simp [execOp, h1, asBool]; rfl, R_im.2 ?_⟩
  cases b with
  | true => exact h2
  | false => exact h3
/- what an operation makes turns no more -/
theorem OpE.frz {α : Type} {o : Oper} {i n t k fr' : Nat} {enc : α → List IV} {xs : List α} {H1 : List Ent} (h : OpE C o σ H fr (.row i n) H1 fr') (hh : hget H1 i = some (.row t k enc xs)) : OpE C o σ H fr (.im (IV.view k enc xs)) (hdel H1 i) fr' := fun ρ μ a w hl ha hH hfree => by
  refine Oper.wp_mono ?_ (h ρ μ a w hl ha hH hfree)
  rintro a' w' ⟨v, μ', ρ', rfl, h1, h2, h3, h4, h5⟩
  unfold SV.R at h1
  have hm := hget_mem hh
  have hent := h2.1 _ hm
  rcases row_view hent with ⟨u, k1, k2, k3⟩ | ⟨u, g, cs, k1, k2, k3, k4⟩
  · rw [h1.1] at k1
    injection k1 with k1
    subst k1
    exact ⟨v, μ', ρ', rfl, R_im.2 (k3 μ'), h2.sub fun e he => (hdel_mem he).1, h3, h4, ⟨h5.os, h5.tape, h5.output, h5.size, h5.block, h5.le, h5.new, h5.agr, fun e he => h5.own e (hdel_mem he).1⟩⟩
  · rw [h1.1] at k1
    injection k1 with k1
    subst k1
    have h0 := (hent.lt k2).2
    have hle : Mem.le μ' (μ'.add g cs) := fun b c hb => by
      unfold Mem.add
      by_cases e : b = g
      · subst e; rw [h0] at hb; cases hb
      · rw [if_neg e]; exact hb
    refine ⟨v, μ'.add g cs, ρ', rfl, R_im.2 (k4 hle), ⟨fun e he => ?_, fun e he e' he' => h2.2 e (hdel_mem he).1 e' (hdel_mem he').1⟩, h3, h4, ⟨h5.os, h5.tape, h5.output, h5.size, h5.block, h5.le.trans hle, fun b hb => ?_, fun b c hb => ?_, fun e he => h5.own e (hdel_mem he).1⟩⟩
    · obtain ⟨q1, q2⟩ := hdel_mem he
      refine (h2.1 e q1).keep (Nms.le.refl _) hle fun b hb => ⟨rfl, ?_⟩
      unfold Mem.add
      rw [if_neg (fun e2 => h2.2 _ hm e q1 (fun e3 => q2 e3.symm) g k2 (by rw [← e2]; exact hb))]
      exact ((h2.1 e q1).lt hb).2
    · unfold Mem.add at hb
      by_cases e : b = g
      · subst e
        rcases h5.own _ hm b k2 with q | q
        · exact .inr (.inr q)
        · exact .inr (.inl q)
      · rw [if_neg e] at hb; exact h5.new b hb
    · unfold Mem.add at hb
      by_cases e : b = g
      · rw [if_pos e] at hb; injection hb with hb; subst hb; subst e; exact ⟨t, (0, 0), k3⟩
      · rw [if_neg e] at hb; exact h5.agr b c hb
theorem EvsS.im {f : Nat → Nat} {x : Go.Operand} {s : IV} {xs : List Go.Operand} {l : List SV} (h : Ev σ x (.im s)) (t : EvsS σ f xs l) : EvsS σ f (x :: xs) (.im s :: l) := .cons h t
theorem EvsS.row {f : Nat → Nat} {x : Go.Operand} {i j n : Nat} {xs : List Go.Operand} {l : List SV} (h : Ev σ x (.row j n)) (hf : f i = j) (t : EvsS σ f xs l) : EvsS σ f (x :: xs) (.row i n :: l) := .cons (by simp only [SV.rn]; rw [hf]; exact h) t
theorem EvsS.off {f : Nat → Nat} {x : Go.Operand} {i j n : Nat} {xs : List Go.Operand} {l : List SV} (h : Ev σ x (.off j n)) (hf : f i = j) (t : EvsS σ f xs l) : EvsS σ f (x :: xs) (.off i n :: l) := .cons (by simp only [SV.rn]; rw [hf]; exact h) t
end
section
variable {F : Fx} {nt : Nat} {x : St} {σ σ' : Env} {H H' : List Ent} {fr fr' : Nat}
/- nil in a cell, as a row of the call's own -/
theorem Shift.row0In {α : Type} (p j et k : Nat) (enc : α → List IV) (hk : ∀ x, (enc x).length = k) {bt : TypeId} {cs : List SV} (hp : hget H p = some (.blk bt cs)) (hj : cs[j]? = some (.im (IV.val (.slice none 0 0)))) (hlt : Nat.beq fr p = false) :
    Shift F nt ⟨σ, H, fr⟩ ⟨σ, hset ((fr, .row et k enc []) :: H) p (.blk bt (cs.set j (.row fr 0))), fr + 1⟩ := fun μ ρ a w hi => by
  have h2 := hi.new1 (v := .slice none 0 0) (ob := .row et k enc []) (Stp.refl hi.agr) ⟨_, [], upd_at _ _ _, World.ownsRow_nil _ _ _ _, rfl, hk, ⟨(fun g hg => by cases hg), (fun u hu => by cases hu)⟩⟩ (fun g hg => by cases hg)
  have hm : (p, HObj.blk bt cs) ∈ (fr, HObj.row et k enc []) :: H := List.mem_cons_of_mem _ (hget_mem hp)
  have h3 : EntOk (upd ρ fr (.slice none 0 0)) μ w (p, .blk bt (cs.set j (.row fr 0))) := by
    obtain ⟨g, us, k1, k2, k3, k4, k5⟩ := h2.heap.1 _ hm
    refine ⟨g, us, k1, k2, ?_, k4, k5⟩
    obtain ⟨v, k6, k7⟩ := k3.get hj
    have k7 : v = .slice none 0 0 := R_im.1 k7
    subst k7
    have k8 := k3.set (s := .row fr 0) (v := .slice none 0 0) (by unfold SV.R; exact ⟨upd_at _ _ _, none, 0, rfl, .inl rfl⟩) j
    have : us.toList.set j (.slice none 0 0) = us.toList := by
      apply List.ext_getElem?
      intro q
      rw [List.getElem?_set]
      split
      · rename_i e; subst e; split
        · rw [k6]
        · rename_i hlt; rw [List.getElem?_eq_none (by omega)]
      · rfl
    rwa [this] at k8
  obtain ⟨h4, _⟩ := heap_set h2.heap h2.agr hm ⟨rfl, rfl, rfl, Nat.le_refl _, fun _ _ _ => rfl⟩ h3
  refine ⟨μ, _, h2.size, h2.defers, h2.env, h2.agr, h4, h2.nms, h2.os, h2.tape, h2.output, h2.hsize, h2.block, h2.le, h2.new, fun e he g hg => ?_⟩
  rcases hset_mem he with rfl | ⟨h5, _⟩
  · exact h2.own _ hm g hg
  · exact h2.own e h5 g hg
end
theorem len1 {α : Type} {l : List α} (h : l.length = 1) : ∃ a, l = [a] := by
  match l, h with
  | [a], _ => exact ⟨a, rfl⟩
theorem len2 {α : Type} {l : List α} (h : l.length = 2) : ∃ a b, l = [a, b] := by
  match l, h with
  | [a, b], _ => exact ⟨a, b, rfl⟩
theorem len3 {α : Type} {l : List α} (h : l.length = 3) : ∃ a b c, l = [a, b, c] := by
  match l, h with
  | [a, b, c], _ => exact ⟨a, b, c, rfl⟩
theorem len4 {α : Type} {l : List α} (h : l.length = 4) : ∃ a b c d, l = [a, b, c, d] := by
  match l, h with
  | [a, b, c, d], _ => exact ⟨a, b, c, d, rfl⟩
end Go.Proofs.Ytjgmbgfcffnanaa
