/- The reference: a plan out of bytes. -/
import Derived.Test.YtjgmbgfcffnanabWs
namespace Go.Proofs.Ytjgmbgfcffnanab
open Go.RowKit

/- a drawn region, order by order -/
def LA (C : Cfg) (F : Fx) (nt : Nat) (ops : Array Oper) (Q : Exit → St → Prop) (fuel : Nat) (listed : Array Bool) (x : St) : Prop :=
  ∀ μ ρ a w, Inv F nt x μ ρ a w → wpAnyIn F.fen 9 C.P .any ops (fun e a' w' => ∃ y μ' ρ', Q e y ∧ Inv F nt y μ' ρ' a' w') fuel listed a w
section
variable {C : Cfg} {F : Fx} {nt : Nat} {ops : Array Oper} {Q : Exit → St → Prop} {fuel : Nat} {listed : Array Bool} {x : St}
theorem LA.done (hr : Region.ready .any ops listed = []) (hq : Q .normal x) : LA C F nt ops Q fuel listed x := fun μ ρ a w hi => by
  cases fuel with
  | zero => exact ⟨hr, x, μ, ρ, hq, hi⟩
  | succ n =>
    refine ⟨fun _ => ⟨x, μ, ρ, hq, hi⟩, fun i h => ?_⟩
    rw [hr] at h
    cases h
theorem LA.op {i : Nat} {o : Oper} (ho : ops[i]? = some o) (hg : o.guard = none) {k : Nat} {s : SV} {y : St} (h : Step1 C ops nt k o x s y) (t : LA C F nt ops Q fuel (listed.setIfInBounds i true) y) {μ : Mem} {ρ : Nms} {a : Act} {w : World} (hi : Inv F nt x μ ρ a w) :
    wpOpIn F.fen 9 C.P ops (fun e a' w' => ∃ y μ' ρ', Q e y ∧ Inv F nt y μ' ρ' a' w') i (wpAnyIn F.fen 9 C.P .any ops (fun e a' w' => ∃ y μ' ρ', Q e y ∧ Inv F nt y μ' ρ' a' w') fuel (listed.setIfInBounds i true)) a w := by
  unfold wpOpIn
  rw [ho]
  dsimp only
  rw [if_pos (by simp [Region.wanted, hg])]
  have h1 := Step1.sound h hi
  unfold Next1 at h1
  rw [if_pos (by simp [Region.wanted, hg])] at h1
  exact op_fen (fun a' w' ⟨_, _, h3⟩ => h3.defers.trans hi.defers.symm) (fun a' w' ⟨μ', ρ', h2⟩ => t _ _ _ _ h2) h1
theorem LA.s1 {i : Nat} {o : Oper} (hr : Region.ready .any ops listed = [i]) (ho : ops[i]? = some o) (hg : o.guard = none) {k : Nat} {s : SV} {y : St} (h : Step1 C ops nt k o x s y) (t : LA C F nt ops Q fuel (listed.setIfInBounds i true) y) : LA C F nt ops Q (fuel + 1) listed x := fun μ ρ a w hi => by
  refine ⟨fun h => (by rw [hr] at h; cases h), fun q hq => ?_⟩
  rw [hr] at hq
  rcases List.mem_singleton.1 hq with rfl
  exact LA.op ho hg h t hi
theorem LA.s2 {i j : Nat} {o p : Oper} (hr : Region.ready .any ops listed = [i, j]) (ho : ops[i]? = some o) (hg : o.guard = none) {k : Nat} {s : SV} {y : St} (h : Step1 C ops nt k o x s y) (hp : ops[j]? = some p) (hgp : p.guard = none) {k2 : Nat} {s2 : SV} {z : St} (h2 : Step1 C ops nt k2 p x s2 z)
    (t : LA C F nt ops Q fuel (listed.setIfInBounds i true) y) (t2 : LA C F nt ops Q fuel (listed.setIfInBounds j true) z) : LA C F nt ops Q (fuel + 1) listed x := fun μ ρ a w hi => by
  refine ⟨fun h => (by rw [hr] at h; cases h), fun q hq => ?_⟩
  rw [hr] at hq
  rcases List.mem_cons.1 hq with rfl | hq
  · exact LA.op ho hg h t hi
  · rcases List.mem_singleton.1 hq with rfl
    exact LA.op hp hgp h2 t2 hi
theorem WP.anyLA {id : Nat} (n : Nat) (hn : ops.size = n) (h : LA C F nt ops Q n (Array.replicate n false) x) : WP C F nt (.region id ops true) Q x := fun μ ρ a w hi => by
  subst hn
  exact wpIn_region_any C.mixed (h μ ρ a _ ⟨hi.size, hi.defers, hi.env, hi.agr, hi.heap, hi.nms, hi.os, hi.tape, hi.output, hi.hsize, hi.block, hi.le, hi.new, hi.own⟩)
theorem WP.to {c : Code} (Z : St) (h : WP C F nt c (fun e y => e = .normal ∧ Shift F nt y Z) x) (hq : Q .normal Z) : WP C F nt c Q x := fun μ ρ a w hi => wpIn_mono (h μ ρ a w hi) fun e a' w' ⟨y, μ', ρ', ⟨he, h1⟩, h3⟩ => by
  subst he
  obtain ⟨μ2, ρ2, h4⟩ := h1 _ _ _ _ h3
  exact ⟨Z, μ2, ρ2, hq, h4⟩
end

theorem listE_cut {α : Type} (p : Ey α) (s : List UInt8) : listE p s = repE p (byteE s).1.toNat (byteE s).2 := rfl
set_option maxRecDepth 100000 in
set_option maxHeartbeats 4000000 in
theorem ref_PlanFrom_fn (b : List UInt8) : Fn (Cfg.mk Try.prog (ttAt ttl) ttl_ok.ok mixd) 19 [IV.str b] (IV.tup [planV (fromS b).1, IV.bool (fromS b).2]) := by
  refine Fn.of_wp _ Try.func19 rfl (by kernel_rfl) Try.ntmps19 rfl ?_
  intro F hD hG
  ((repeat apply WP.seq); apply WP.lreg; refine ALK.a (opa_alloc rfl rfl) rfl ?_; refine nA rfl rfl ?_; refine ALK.nil ?_; try show WP _ _ _ _ _ _)
  ((repeat apply WP.seq); apply WP.lreg; refine nM rfl rfl ?_; (first | refine ALK.n (opn_build rfl rfl rfl rfl (Pc rfl (eB rfl) Cs.a rfl rfl Parts.nil)) rfl ?_ | refine ALK.n (opn_buildA rfl rfl rfl rfl rfl (Pc rfl (eB rfl) Cs.a rfl rfl Parts.nil)) rfl ?_); refine ALK.a (opa_box (eB rfl) Cs.a) rfl ?_; refine nA rfl rfl ?_; refine ALK.nil ?_; try show WP _ _ _ _ _ _)
  ((repeat apply WP.seq); apply WP.lreg; refine nM rfl rfl ?_; refine ALK.e (ope_callE [1] (ref_byte_fn b) EvsS.a rfl rfl rfl HIn.a) rfl rfl ?_; (first | refine ALK.n (opn_build rfl rfl rfl rfl (Pc rfl (eB rfl) Cs.a rfl rfl Parts.nil)) rfl ?_ | refine ALK.n (opn_buildA rfl rfl rfl rfl rfl (Pc rfl (eB rfl) Cs.a rfl rfl Parts.nil)) rfl ?_); refine ALK.a (opa_alloc rfl rfl) rfl ?_; (first | refine ALK.e (ope_store rfl (eB rfl) (eB rfl) Cs.a rfl rfl rfl) rfl rfl ?_ | refine ALK.e (ope_storeRow rfl rfl (eB rfl) (eB rfl) (oc_val rfl) rfl rfl (by assumption)) rfl rfl ?_); refine ALK.nil ?_; try show WP _ _ _ _ _ _)
  ((repeat apply WP.seq); apply WP.lreg; refine nM rfl rfl ?_; refine ALK.e (ope_callE [1] (ref_byte_fn (byteE b).2) EvsS.a rfl rfl rfl HIn.a) rfl rfl ?_; refine nA rfl rfl ?_; refine ALK.nil ?_; try show WP _ _ _ _ _ _)
  refine WP.shift (Shift.row0In 2 1 50 3 cT (fun _ => rfl) rfl rfl rfl) ?_
  have hq0 : planE' b = (⟨(byteE b).1, (repE txnE (byteE (byteE b).2).1.toNat (byteE (byteE b).2).2).1⟩, (repE txnE (byteE (byteE b).2).1.toNat (byteE (byteE b).2).2).2) := rfl
  have hb0 := ok_byte (byteE b).2
  unfold IsB at hb0
  obtain ⟨sh, hsh⟩ : ∃ sh, sh = (byteE b).1 := ⟨_, rfl⟩
  obtain ⟨n0, hn0⟩ : ∃ n, n = (byteE (byteE b).2).1 := ⟨_, rfl⟩
  obtain ⟨r0, hr0⟩ : ∃ r, r = (byteE (byteE b).2).2 := ⟨_, rfl⟩
  rw [← hsh, ← hn0, ← hr0] at hq0
  rw [← hn0] at hb0
  rw [← hsh, ← hn0, ← hr0]
  ((repeat apply WP.seq); apply WP.block)
  refine WP.loop (fun c : Nat × List Txn × List UInt8 => ⟨[(6, .im (IV.int (n0 - (c.1 : Int)))), (0, .im (IV.str b)), (2, .off 0 0), (3, .im (IV.bool false)), (4, .off 1 0), (5, .off 2 0)], [(0, .blk 24 [.im (IV.int 0), .im (IV.val (.slice none 0 0))]), (1, eyeB c.2.2), (2, .blk 24 [.im (IV.int sh), .row 3 c.2.1.length]), (3, .row 50 3 cT c.2.1)], 4⟩) (fun c => (c.1 : Int) ≤ n0 ∧ repE txnE c.1 r0 = (c.2.1, c.2.2)) (fun c => n0.toNat - c.1) (0, [], r0) ⟨hb0.1, rfl⟩ (Shift.sub [(0, 0), (1, 1), (2, 2), (3, 3)] rfl (SubE.cons rfl (SLe.im (ILe.int (by simp))) SubE.a) (SubH.cons rfl rfl (ObLe.blk SLes.a) (SubH.cons rfl rfl (ObLe.blk SLes.a) (SubH.cons rfl rfl (ObLe.blk SLes.a) (SubH.cons rfl rfl (ObLe.row rfl) (SubH.nil)))))) ?_
  rintro ⟨k, l, r⟩ ⟨hk, hr⟩
  simp only at hk hr
  have hll : l.length = k := by have := repE_len txnE k r0; rw [hr] at this; exact this
  ((repeat apply WP.seq); apply WP.lreg; refine nM rfl rfl ?_; refine ALK.n OpN.cm rfl ?_; refine ALK.nil ?_; try show WP _ _ _ _ _ _)
  ((repeat apply WP.seq); refine WP.cond rfl (fun h => ?_) (fun h => ?_))
  · (refine WP.skip ?_; show WP _ _ _ _ _ _)
    have hlt : (k : Int) < n0 := by simp at h; omega
    ((repeat apply WP.seq); apply WP.block)
    ((repeat apply WP.seq); apply WP.lreg; refine ALK.a (opa_alloc rfl rfl) rfl ?_; refine ALK.nil ?_; try show WP _ _ _ _ _ _)
    ((repeat apply WP.seq); apply WP.lreg; refine nM rfl rfl ?_; refine ALK.e (ope_callE [1] (ref_byte_fn r) EvsS.a rfl rfl rfl HIn.a) rfl rfl ?_; refine nA rfl rfl ?_; refine ALK.nil ?_; try show WP _ _ _ _ _ _)
    refine WP.shift (Shift.row0In 4 0 3 1 cI (fun _ => rfl) rfl rfl rfl) ?_
    have hc1 := ok_byte r
    unfold IsB at hc1
    obtain ⟨c1, hc1e⟩ : ∃ n, n = (byteE r).1 := ⟨_, rfl⟩
    obtain ⟨q1, hq1e⟩ : ∃ r', r' = (byteE r).2 := ⟨_, rfl⟩
    rw [← hc1e] at hc1
    rw [← hc1e, ← hq1e]
    ((repeat apply WP.seq); apply WP.block)
    refine WP.loop (fun c : Nat × List Int × List UInt8 => ⟨[(8, .im (IV.int (c1 - (c.1 : Int)))), (7, .off 4 0), (6, .im (IV.int (n0 - (k : Int)))), (0, .im (IV.str b)), (2, .off 0 0), (3, .im (IV.bool false)), (4, .off 1 0), (5, .off 2 0)], [(0, .blk 24 [.im (IV.int 0), .im (IV.val (.slice none 0 0))]), (1, eyeB c.2.2), (2, .blk 24 [.im (IV.int sh), .row 3 l.length]), (3, .row 50 3 cT l), (4, .blk 50 [.row 5 c.2.1.length, .im (IV.val (.slice none 0 0)), .im (IV.val (.slice none 0 0))]), (5, .row 3 1 cI c.2.1)], 6⟩) (fun c => (c.1 : Int) ≤ c1 ∧ repE byteE c.1 q1 = (c.2.1, c.2.2)) (fun c => (c1).toNat - c.1) (0, [], q1) ⟨hc1.1, rfl⟩ (Shift.sub [(0, 0), (1, 1), (2, 2), (3, 3), (4, 4), (5, 5)] rfl (SubE.cons rfl (SLe.im (ILe.int (by simp))) SubE.a) (SubH.cons rfl rfl (ObLe.blk SLes.a) (SubH.cons rfl rfl (ObLe.blk SLes.a) (SubH.cons rfl rfl (ObLe.blk SLes.a) (SubH.cons rfl rfl (ObLe.row rfl) (SubH.cons rfl rfl (ObLe.blk SLes.a) (SubH.cons rfl rfl (ObLe.row rfl) (SubH.nil)))))))) ?_
    rintro ⟨j, m, r2⟩ ⟨hj, hm⟩
    simp only at hj hm
    have hml : m.length = j := by have := repE_len byteE j q1; rw [hm] at this; exact this
    ((repeat apply WP.seq); apply WP.lreg; refine nM rfl rfl ?_; refine ALK.n OpN.cm rfl ?_; refine ALK.nil ?_; try show WP _ _ _ _ _ _)
    ((repeat apply WP.seq); refine WP.cond rfl (fun h => ?_) (fun h => ?_))
    · (refine WP.skip ?_; show WP _ _ _ _ _ _)
      have hlt2 : (j : Int) < c1 := by simp at h; omega
      ((repeat apply WP.seq); apply WP.block)
      (repeat apply WP.seq)
      refine WP.to ⟨[(8, .im (IV.int (c1 - (j : Int)))), (7, .off 4 0), (6, .im (IV.int (n0 - (k : Int)))), (0, .im (IV.str b)), (2, .off 0 0), (3, .im (IV.bool false)), (4, .off 1 0), (5, .off 2 0)], [(0, .blk 24 [.im (IV.int 0), .im (IV.val (.slice none 0 0))]), (1, eyeB (byteE r2).2), (2, .blk 24 [.im (IV.int sh), .row 3 l.length]), (3, .row 50 3 cT l), (4, .blk 50 [.row 5 (m ++ [(byteE r2).1]).length, .im (IV.val (.slice none 0 0)), .im (IV.val (.slice none 0 0))]), (5, .row 3 1 cI (m ++ [(byteE r2).1]))], 6⟩ ?_ ?_
      · refine WP.anyLA 8 rfl ?_
        refine LA.s2 (i := 0) (j := 2) (by kernel_rfl) rfl rfl (Step1.n (.inl rfl) rfl (opn_fieldOff (o := 0) rfl (Ev.base rfl))) rfl rfl (Step1.n (.inl rfl) rfl (opn_move (Ev.base rfl))) ?_ ?_
        · refine LA.s2 (i := 1) (j := 2) (by kernel_rfl) rfl rfl (Step1.r (.inl rfl) rfl (opr_load rfl (Ev.base rfl) rfl rfl)) rfl rfl (Step1.n (.inl rfl) rfl (opn_move (Ev.base rfl))) ?_ ?_
          · refine LA.s1 (i := 2) (by kernel_rfl) rfl rfl (Step1.n (.inl rfl) rfl (opn_move (Ev.base rfl))) ?_
            refine LA.s1 (i := 3) (by kernel_rfl) rfl rfl (Step1.e (.inl rfl) rfl (Nat.le_of_ble_eq_true rfl) (ope_callE [1] (ref_byte_fn r2) EvsS.a rfl rfl rfl HIn.a)) ?_
            refine LA.s1 (i := 4) (by kernel_rfl) rfl rfl (Step1.n (.inl rfl) rfl (opn_slit rfl rfl rfl rfl rfl rfl (Pc rfl (Ev.base rfl) Cs.a rfl rfl Parts.nil) rfl)) ?_
            refine LA.s1 (i := 5) (by kernel_rfl) rfl rfl (Step1.e (.inl rfl) rfl (Nat.le_of_ble_eq_true rfl) (ope_append (b := 8) [(byteE r2).1] rfl rfl rfl rfl rfl (Ev.base rfl) (Ev.base rfl) rfl rfl (by simp; omega) rfl)) ?_
            refine LA.s1 (i := 6) (by kernel_rfl) rfl rfl (Step1.n (.inl rfl) rfl (opn_fieldOff (o := 0) rfl (Ev.base rfl))) ?_
            refine LA.s1 (i := 7) (by kernel_rfl) rfl rfl (Step1.e (.inl rfl) rfl (Nat.le_of_ble_eq_true rfl) (ope_store rfl (Ev.base rfl) (Ev.base rfl) Cs.a rfl rfl rfl)) ?_
            exact LA.done (by kernel_rfl) (⟨rfl, Shift.sub [(0, 0), (1, 1), (2, 2), (3, 3), (4, 4), (5, 6)] rfl SubE.a (SubH.cons rfl rfl (ObLe.blk SLes.a) (SubH.cons rfl rfl (ObLe.blk SLes.a) (SubH.cons rfl rfl (ObLe.blk SLes.a) (SubH.cons rfl rfl (ObLe.row rfl) (SubH.cons rfl rfl (ObLe.blk (SLes.cons (SLe.row rfl (by simp)) SLes.a)) (SubH.cons rfl rfl (ObLe.row rfl) (SubH.nil)))))))⟩)
          · refine LA.s2 (i := 1) (j := 3) (by kernel_rfl) rfl rfl (Step1.r (.inl rfl) rfl (opr_load rfl (Ev.base rfl) rfl rfl)) rfl rfl (Step1.e (.inl rfl) rfl (Nat.le_of_ble_eq_true rfl) (ope_callE [1] (ref_byte_fn r2) EvsS.a rfl rfl rfl HIn.a)) ?_ ?_
            · refine LA.s1 (i := 3) (by kernel_rfl) rfl rfl (Step1.e (.inl rfl) rfl (Nat.le_of_ble_eq_true rfl) (ope_callE [1] (ref_byte_fn r2) EvsS.a rfl rfl rfl HIn.a)) ?_
              refine LA.s1 (i := 4) (by kernel_rfl) rfl rfl (Step1.n (.inl rfl) rfl (opn_slit rfl rfl rfl rfl rfl rfl (Pc rfl (Ev.base rfl) Cs.a rfl rfl Parts.nil) rfl)) ?_
              refine LA.s1 (i := 5) (by kernel_rfl) rfl rfl (Step1.e (.inl rfl) rfl (Nat.le_of_ble_eq_true rfl) (ope_append (b := 8) [(byteE r2).1] rfl rfl rfl rfl rfl (Ev.base rfl) (Ev.base rfl) rfl rfl (by simp; omega) rfl)) ?_
              refine LA.s1 (i := 6) (by kernel_rfl) rfl rfl (Step1.n (.inl rfl) rfl (opn_fieldOff (o := 0) rfl (Ev.base rfl))) ?_
              refine LA.s1 (i := 7) (by kernel_rfl) rfl rfl (Step1.e (.inl rfl) rfl (Nat.le_of_ble_eq_true rfl) (ope_store rfl (Ev.base rfl) (Ev.base rfl) Cs.a rfl rfl rfl)) ?_
              exact LA.done (by kernel_rfl) (⟨rfl, Shift.sub [(0, 0), (1, 1), (2, 2), (3, 3), (4, 4), (5, 6)] rfl SubE.a (SubH.cons rfl rfl (ObLe.blk SLes.a) (SubH.cons rfl rfl (ObLe.blk SLes.a) (SubH.cons rfl rfl (ObLe.blk SLes.a) (SubH.cons rfl rfl (ObLe.row rfl) (SubH.cons rfl rfl (ObLe.blk (SLes.cons (SLe.row rfl (by simp)) SLes.a)) (SubH.cons rfl rfl (ObLe.row rfl) (SubH.nil)))))))⟩)
            · refine LA.s2 (i := 1) (j := 4) (by kernel_rfl) rfl rfl (Step1.r (.inl rfl) rfl (opr_load rfl (Ev.base rfl) rfl rfl)) rfl rfl (Step1.n (.inl rfl) rfl (opn_slit rfl rfl rfl rfl rfl rfl (Pc rfl (Ev.base rfl) Cs.a rfl rfl Parts.nil) rfl)) ?_ ?_
              · refine LA.s1 (i := 4) (by kernel_rfl) rfl rfl (Step1.n (.inl rfl) rfl (opn_slit rfl rfl rfl rfl rfl rfl (Pc rfl (Ev.base rfl) Cs.a rfl rfl Parts.nil) rfl)) ?_
                refine LA.s1 (i := 5) (by kernel_rfl) rfl rfl (Step1.e (.inl rfl) rfl (Nat.le_of_ble_eq_true rfl) (ope_append (b := 8) [(byteE r2).1] rfl rfl rfl rfl rfl (Ev.base rfl) (Ev.base rfl) rfl rfl (by simp; omega) rfl)) ?_
                refine LA.s1 (i := 6) (by kernel_rfl) rfl rfl (Step1.n (.inl rfl) rfl (opn_fieldOff (o := 0) rfl (Ev.base rfl))) ?_
                refine LA.s1 (i := 7) (by kernel_rfl) rfl rfl (Step1.e (.inl rfl) rfl (Nat.le_of_ble_eq_true rfl) (ope_store rfl (Ev.base rfl) (Ev.base rfl) Cs.a rfl rfl rfl)) ?_
                exact LA.done (by kernel_rfl) (⟨rfl, Shift.sub [(0, 0), (1, 1), (2, 2), (3, 3), (4, 4), (5, 6)] rfl SubE.a (SubH.cons rfl rfl (ObLe.blk SLes.a) (SubH.cons rfl rfl (ObLe.blk SLes.a) (SubH.cons rfl rfl (ObLe.blk SLes.a) (SubH.cons rfl rfl (ObLe.row rfl) (SubH.cons rfl rfl (ObLe.blk (SLes.cons (SLe.row rfl (by simp)) SLes.a)) (SubH.cons rfl rfl (ObLe.row rfl) (SubH.nil)))))))⟩)
              · refine LA.s1 (i := 1) (by kernel_rfl) rfl rfl (Step1.r (.inl rfl) rfl (opr_load rfl (Ev.base rfl) rfl rfl)) ?_
                refine LA.s1 (i := 5) (by kernel_rfl) rfl rfl (Step1.e (.inl rfl) rfl (Nat.le_of_ble_eq_true rfl) (ope_append (b := 8) [(byteE r2).1] rfl rfl rfl rfl rfl (Ev.base rfl) (Ev.base rfl) rfl rfl (by simp; omega) rfl)) ?_
                refine LA.s1 (i := 6) (by kernel_rfl) rfl rfl (Step1.n (.inl rfl) rfl (opn_fieldOff (o := 0) rfl (Ev.base rfl))) ?_
                refine LA.s1 (i := 7) (by kernel_rfl) rfl rfl (Step1.e (.inl rfl) rfl (Nat.le_of_ble_eq_true rfl) (ope_store rfl (Ev.base rfl) (Ev.base rfl) Cs.a rfl rfl rfl)) ?_
                exact LA.done (by kernel_rfl) (⟨rfl, Shift.sub [(0, 0), (1, 1), (2, 2), (3, 3), (4, 4), (5, 6)] rfl SubE.a (SubH.cons rfl rfl (ObLe.blk SLes.a) (SubH.cons rfl rfl (ObLe.blk SLes.a) (SubH.cons rfl rfl (ObLe.blk SLes.a) (SubH.cons rfl rfl (ObLe.row rfl) (SubH.cons rfl rfl (ObLe.blk (SLes.cons (SLe.row rfl (by simp)) SLes.a)) (SubH.cons rfl rfl (ObLe.row rfl) (SubH.nil)))))))⟩)
        · refine LA.s2 (i := 0) (j := 3) (by kernel_rfl) rfl rfl (Step1.n (.inl rfl) rfl (opn_fieldOff (o := 0) rfl (Ev.base rfl))) rfl rfl (Step1.e (.inl rfl) rfl (Nat.le_of_ble_eq_true rfl) (ope_callE [1] (ref_byte_fn r2) EvsS.a rfl rfl rfl HIn.a)) ?_ ?_
          · refine LA.s2 (i := 1) (j := 3) (by kernel_rfl) rfl rfl (Step1.r (.inl rfl) rfl (opr_load rfl (Ev.base rfl) rfl rfl)) rfl rfl (Step1.e (.inl rfl) rfl (Nat.le_of_ble_eq_true rfl) (ope_callE [1] (ref_byte_fn r2) EvsS.a rfl rfl rfl HIn.a)) ?_ ?_
            · refine LA.s1 (i := 3) (by kernel_rfl) rfl rfl (Step1.e (.inl rfl) rfl (Nat.le_of_ble_eq_true rfl) (ope_callE [1] (ref_byte_fn r2) EvsS.a rfl rfl rfl HIn.a)) ?_
              refine LA.s1 (i := 4) (by kernel_rfl) rfl rfl (Step1.n (.inl rfl) rfl (opn_slit rfl rfl rfl rfl rfl rfl (Pc rfl (Ev.base rfl) Cs.a rfl rfl Parts.nil) rfl)) ?_
              refine LA.s1 (i := 5) (by kernel_rfl) rfl rfl (Step1.e (.inl rfl) rfl (Nat.le_of_ble_eq_true rfl) (ope_append (b := 8) [(byteE r2).1] rfl rfl rfl rfl rfl (Ev.base rfl) (Ev.base rfl) rfl rfl (by simp; omega) rfl)) ?_
              refine LA.s1 (i := 6) (by kernel_rfl) rfl rfl (Step1.n (.inl rfl) rfl (opn_fieldOff (o := 0) rfl (Ev.base rfl))) ?_
              refine LA.s1 (i := 7) (by kernel_rfl) rfl rfl (Step1.e (.inl rfl) rfl (Nat.le_of_ble_eq_true rfl) (ope_store rfl (Ev.base rfl) (Ev.base rfl) Cs.a rfl rfl rfl)) ?_
              exact LA.done (by kernel_rfl) (⟨rfl, Shift.sub [(0, 0), (1, 1), (2, 2), (3, 3), (4, 4), (5, 6)] rfl SubE.a (SubH.cons rfl rfl (ObLe.blk SLes.a) (SubH.cons rfl rfl (ObLe.blk SLes.a) (SubH.cons rfl rfl (ObLe.blk SLes.a) (SubH.cons rfl rfl (ObLe.row rfl) (SubH.cons rfl rfl (ObLe.blk (SLes.cons (SLe.row rfl (by simp)) SLes.a)) (SubH.cons rfl rfl (ObLe.row rfl) (SubH.nil)))))))⟩)
            · refine LA.s2 (i := 1) (j := 4) (by kernel_rfl) rfl rfl (Step1.r (.inl rfl) rfl (opr_load rfl (Ev.base rfl) rfl rfl)) rfl rfl (Step1.n (.inl rfl) rfl (opn_slit rfl rfl rfl rfl rfl rfl (Pc rfl (Ev.base rfl) Cs.a rfl rfl Parts.nil) rfl)) ?_ ?_
              · refine LA.s1 (i := 4) (by kernel_rfl) rfl rfl (Step1.n (.inl rfl) rfl (opn_slit rfl rfl rfl rfl rfl rfl (Pc rfl (Ev.base rfl) Cs.a rfl rfl Parts.nil) rfl)) ?_
                refine LA.s1 (i := 5) (by kernel_rfl) rfl rfl (Step1.e (.inl rfl) rfl (Nat.le_of_ble_eq_true rfl) (ope_append (b := 8) [(byteE r2).1] rfl rfl rfl rfl rfl (Ev.base rfl) (Ev.base rfl) rfl rfl (by simp; omega) rfl)) ?_
                refine LA.s1 (i := 6) (by kernel_rfl) rfl rfl (Step1.n (.inl rfl) rfl (opn_fieldOff (o := 0) rfl (Ev.base rfl))) ?_
                refine LA.s1 (i := 7) (by kernel_rfl) rfl rfl (Step1.e (.inl rfl) rfl (Nat.le_of_ble_eq_true rfl) (ope_store rfl (Ev.base rfl) (Ev.base rfl) Cs.a rfl rfl rfl)) ?_
                exact LA.done (by kernel_rfl) (⟨rfl, Shift.sub [(0, 0), (1, 1), (2, 2), (3, 3), (4, 4), (5, 6)] rfl SubE.a (SubH.cons rfl rfl (ObLe.blk SLes.a) (SubH.cons rfl rfl (ObLe.blk SLes.a) (SubH.cons rfl rfl (ObLe.blk SLes.a) (SubH.cons rfl rfl (ObLe.row rfl) (SubH.cons rfl rfl (ObLe.blk (SLes.cons (SLe.row rfl (by simp)) SLes.a)) (SubH.cons rfl rfl (ObLe.row rfl) (SubH.nil)))))))⟩)
              · refine LA.s1 (i := 1) (by kernel_rfl) rfl rfl (Step1.r (.inl rfl) rfl (opr_load rfl (Ev.base rfl) rfl rfl)) ?_
                refine LA.s1 (i := 5) (by kernel_rfl) rfl rfl (Step1.e (.inl rfl) rfl (Nat.le_of_ble_eq_true rfl) (ope_append (b := 8) [(byteE r2).1] rfl rfl rfl rfl rfl (Ev.base rfl) (Ev.base rfl) rfl rfl (by simp; omega) rfl)) ?_
                refine LA.s1 (i := 6) (by kernel_rfl) rfl rfl (Step1.n (.inl rfl) rfl (opn_fieldOff (o := 0) rfl (Ev.base rfl))) ?_
                refine LA.s1 (i := 7) (by kernel_rfl) rfl rfl (Step1.e (.inl rfl) rfl (Nat.le_of_ble_eq_true rfl) (ope_store rfl (Ev.base rfl) (Ev.base rfl) Cs.a rfl rfl rfl)) ?_
                exact LA.done (by kernel_rfl) (⟨rfl, Shift.sub [(0, 0), (1, 1), (2, 2), (3, 3), (4, 4), (5, 6)] rfl SubE.a (SubH.cons rfl rfl (ObLe.blk SLes.a) (SubH.cons rfl rfl (ObLe.blk SLes.a) (SubH.cons rfl rfl (ObLe.blk SLes.a) (SubH.cons rfl rfl (ObLe.row rfl) (SubH.cons rfl rfl (ObLe.blk (SLes.cons (SLe.row rfl (by simp)) SLes.a)) (SubH.cons rfl rfl (ObLe.row rfl) (SubH.nil)))))))⟩)
          · refine LA.s2 (i := 0) (j := 4) (by kernel_rfl) rfl rfl (Step1.n (.inl rfl) rfl (opn_fieldOff (o := 0) rfl (Ev.base rfl))) rfl rfl (Step1.n (.inl rfl) rfl (opn_slit rfl rfl rfl rfl rfl rfl (Pc rfl (Ev.base rfl) Cs.a rfl rfl Parts.nil) rfl)) ?_ ?_
            · refine LA.s2 (i := 1) (j := 4) (by kernel_rfl) rfl rfl (Step1.r (.inl rfl) rfl (opr_load rfl (Ev.base rfl) rfl rfl)) rfl rfl (Step1.n (.inl rfl) rfl (opn_slit rfl rfl rfl rfl rfl rfl (Pc rfl (Ev.base rfl) Cs.a rfl rfl Parts.nil) rfl)) ?_ ?_
              · refine LA.s1 (i := 4) (by kernel_rfl) rfl rfl (Step1.n (.inl rfl) rfl (opn_slit rfl rfl rfl rfl rfl rfl (Pc rfl (Ev.base rfl) Cs.a rfl rfl Parts.nil) rfl)) ?_
                refine LA.s1 (i := 5) (by kernel_rfl) rfl rfl (Step1.e (.inl rfl) rfl (Nat.le_of_ble_eq_true rfl) (ope_append (b := 8) [(byteE r2).1] rfl rfl rfl rfl rfl (Ev.base rfl) (Ev.base rfl) rfl rfl (by simp; omega) rfl)) ?_
                refine LA.s1 (i := 6) (by kernel_rfl) rfl rfl (Step1.n (.inl rfl) rfl (opn_fieldOff (o := 0) rfl (Ev.base rfl))) ?_
                refine LA.s1 (i := 7) (by kernel_rfl) rfl rfl (Step1.e (.inl rfl) rfl (Nat.le_of_ble_eq_true rfl) (ope_store rfl (Ev.base rfl) (Ev.base rfl) Cs.a rfl rfl rfl)) ?_
                exact LA.done (by kernel_rfl) (⟨rfl, Shift.sub [(0, 0), (1, 1), (2, 2), (3, 3), (4, 4), (5, 6)] rfl SubE.a (SubH.cons rfl rfl (ObLe.blk SLes.a) (SubH.cons rfl rfl (ObLe.blk SLes.a) (SubH.cons rfl rfl (ObLe.blk SLes.a) (SubH.cons rfl rfl (ObLe.row rfl) (SubH.cons rfl rfl (ObLe.blk (SLes.cons (SLe.row rfl (by simp)) SLes.a)) (SubH.cons rfl rfl (ObLe.row rfl) (SubH.nil)))))))⟩)
              · refine LA.s1 (i := 1) (by kernel_rfl) rfl rfl (Step1.r (.inl rfl) rfl (opr_load rfl (Ev.base rfl) rfl rfl)) ?_
                refine LA.s1 (i := 5) (by kernel_rfl) rfl rfl (Step1.e (.inl rfl) rfl (Nat.le_of_ble_eq_true rfl) (ope_append (b := 8) [(byteE r2).1] rfl rfl rfl rfl rfl (Ev.base rfl) (Ev.base rfl) rfl rfl (by simp; omega) rfl)) ?_
                refine LA.s1 (i := 6) (by kernel_rfl) rfl rfl (Step1.n (.inl rfl) rfl (opn_fieldOff (o := 0) rfl (Ev.base rfl))) ?_
                refine LA.s1 (i := 7) (by kernel_rfl) rfl rfl (Step1.e (.inl rfl) rfl (Nat.le_of_ble_eq_true rfl) (ope_store rfl (Ev.base rfl) (Ev.base rfl) Cs.a rfl rfl rfl)) ?_
                exact LA.done (by kernel_rfl) (⟨rfl, Shift.sub [(0, 0), (1, 1), (2, 2), (3, 3), (4, 4), (5, 6)] rfl SubE.a (SubH.cons rfl rfl (ObLe.blk SLes.a) (SubH.cons rfl rfl (ObLe.blk SLes.a) (SubH.cons rfl rfl (ObLe.blk SLes.a) (SubH.cons rfl rfl (ObLe.row rfl) (SubH.cons rfl rfl (ObLe.blk (SLes.cons (SLe.row rfl (by simp)) SLes.a)) (SubH.cons rfl rfl (ObLe.row rfl) (SubH.nil)))))))⟩)
            · refine LA.s1 (i := 0) (by kernel_rfl) rfl rfl (Step1.n (.inl rfl) rfl (opn_fieldOff (o := 0) rfl (Ev.base rfl))) ?_
              refine LA.s1 (i := 1) (by kernel_rfl) rfl rfl (Step1.r (.inl rfl) rfl (opr_load rfl (Ev.base rfl) rfl rfl)) ?_
              refine LA.s1 (i := 5) (by kernel_rfl) rfl rfl (Step1.e (.inl rfl) rfl (Nat.le_of_ble_eq_true rfl) (ope_append (b := 8) [(byteE r2).1] rfl rfl rfl rfl rfl (Ev.base rfl) (Ev.base rfl) rfl rfl (by simp; omega) rfl)) ?_
              refine LA.s1 (i := 6) (by kernel_rfl) rfl rfl (Step1.n (.inl rfl) rfl (opn_fieldOff (o := 0) rfl (Ev.base rfl))) ?_
              refine LA.s1 (i := 7) (by kernel_rfl) rfl rfl (Step1.e (.inl rfl) rfl (Nat.le_of_ble_eq_true rfl) (ope_store rfl (Ev.base rfl) (Ev.base rfl) Cs.a rfl rfl rfl)) ?_
              exact LA.done (by kernel_rfl) (⟨rfl, Shift.sub [(0, 0), (1, 1), (2, 2), (3, 3), (4, 4), (5, 6)] rfl SubE.a (SubH.cons rfl rfl (ObLe.blk SLes.a) (SubH.cons rfl rfl (ObLe.blk SLes.a) (SubH.cons rfl rfl (ObLe.blk SLes.a) (SubH.cons rfl rfl (ObLe.row rfl) (SubH.cons rfl rfl (ObLe.blk (SLes.cons (SLe.row rfl (by simp)) SLes.a)) (SubH.cons rfl rfl (ObLe.row rfl) (SubH.nil)))))))⟩)
      show WP _ _ _ _ _ _
      ((repeat apply WP.seq); apply WP.lreg; refine nM rfl rfl ?_; refine ALK.n OpN.ar rfl ?_; refine nA rfl rfl ?_; refine ALK.nil ?_; try show WP _ _ _ _ _ _)
      show ∃ _, _ ∧ _ ∧ _
      exact ⟨(j + 1, m ++ [(byteE r2).1], (byteE r2).2), ⟨by simp only; omega, by rw [repE_snoc, hm]⟩, by simp only; omega, Shift.sub [(0, 0), (1, 1), (2, 2), (3, 3), (4, 4), (5, 5)] rfl (SubE.cons rfl (SLe.im (ILe.int (by simp only [wrap64]; omega))) SubE.a) (SubH.cons rfl rfl (ObLe.blk SLes.a) (SubH.cons rfl rfl (ObLe.blk SLes.a) (SubH.cons rfl rfl (ObLe.blk SLes.a) (SubH.cons rfl rfl (ObLe.row rfl) (SubH.cons rfl rfl (ObLe.blk SLes.a) (SubH.cons rfl rfl (ObLe.row rfl) (SubH.nil)))))))⟩
    · ((repeat apply WP.seq); refine WP.exit ?_; show WP _ _ _ _ _ _)
      have hje : j = c1.toNat := by simp at h; omega
      subst hje
      have hL1 : listE byteE r = (m, r2) := by rw [listE_cut, ← hc1e, ← hq1e]; exact hm
      clear hq1e hc1e
      refine WP.shift (Shift.frzIn 4 0 rfl rfl rfl rfl) ?_
      ((repeat apply WP.seq); apply WP.lreg; refine nM rfl rfl ?_; refine ALK.e (ope_callE [1] (ref_byte_fn r2) EvsS.a rfl rfl rfl HIn.a) rfl rfl ?_; refine nA rfl rfl ?_; refine ALK.nil ?_; try show WP _ _ _ _ _ _)
      refine WP.shift (Shift.row0In 4 1 96 5 cG (fun _ => rfl) rfl rfl rfl) ?_
      have hc2 := ok_byte r2
      unfold IsB at hc2
      obtain ⟨c2, hc2e⟩ : ∃ n, n = (byteE r2).1 := ⟨_, rfl⟩
      obtain ⟨q2, hq2e⟩ : ∃ r', r' = (byteE r2).2 := ⟨_, rfl⟩
      rw [← hc2e] at hc2
      rw [← hc2e, ← hq2e]
      ((repeat apply WP.seq); apply WP.block)
      refine WP.loop (fun c : Nat × List Guard × List UInt8 => ⟨[(9, .im (IV.int (c2 - (c.1 : Int)))), (7, .off 4 0), (6, .im (IV.int (n0 - (k : Int)))), (0, .im (IV.str b)), (2, .off 0 0), (3, .im (IV.bool false)), (4, .off 1 0), (5, .off 2 0)], [(0, .blk 24 [.im (IV.int 0), .im (IV.val (.slice none 0 0))]), (1, eyeB c.2.2), (2, .blk 24 [.im (IV.int sh), .row 3 l.length]), (3, .row 50 3 cT l), (4, .blk 50 [.im (intsV m), .row 5 c.2.1.length, .im (IV.val (.slice none 0 0))]), (5, .row 96 5 cG c.2.1)], 6⟩) (fun c => (c.1 : Int) ≤ c2 ∧ repE guardE c.1 q2 = (c.2.1, c.2.2)) (fun c => (c2).toNat - c.1) (0, [], q2) ⟨hc2.1, rfl⟩ (Shift.sub [(0, 0), (1, 1), (2, 2), (3, 3), (4, 4), (5, 6)] rfl (SubE.cons rfl (SLe.im (ILe.int (by simp))) SubE.a) (SubH.cons rfl rfl (ObLe.blk SLes.a) (SubH.cons rfl rfl (ObLe.blk SLes.a) (SubH.cons rfl rfl (ObLe.blk SLes.a) (SubH.cons rfl rfl (ObLe.row rfl) (SubH.cons rfl rfl (ObLe.blk SLes.a) (SubH.cons rfl rfl (ObLe.row rfl) (SubH.nil)))))))) ?_
      rintro ⟨j2, gl, r3⟩ ⟨hj2, hm2⟩
      simp only at hj2 hm2
      have hml2 : gl.length = j2 := by have := repE_len guardE j2 q2; rw [hm2] at this; exact this
      ((repeat apply WP.seq); apply WP.lreg; refine nM rfl rfl ?_; refine ALK.n OpN.cm rfl ?_; refine ALK.nil ?_; try show WP _ _ _ _ _ _)
      ((repeat apply WP.seq); refine WP.cond rfl (fun h => ?_) (fun h => ?_))
      · (refine WP.skip ?_; show WP _ _ _ _ _ _)
        have hlt2 : (j2 : Int) < c2 := by simp at h; omega
        have hg2 : guardE r3 = (⟨(byteE r3).1, (opE (byteE r3).2).1, (opE (opE (byteE r3).2).2).1⟩, (opE (opE (byteE r3).2).2).2) := rfl
        ((repeat apply WP.seq); apply WP.block)
        ((repeat apply WP.seq); apply WP.lreg; refine nM rfl rfl ?_; refine ALK.e (ope_callE [1] (ref_byte_fn r3) EvsS.a rfl rfl rfl HIn.a) rfl rfl ?_; (first | refine ALK.n (opn_build rfl rfl rfl rfl (Pc rfl (eB rfl) Cs.a rfl rfl Parts.nil)) rfl ?_ | refine ALK.n (opn_buildA rfl rfl rfl rfl rfl (Pc rfl (eB rfl) Cs.a rfl rfl Parts.nil)) rfl ?_); refine ALK.a (opa_alloc rfl rfl) rfl ?_; (first | refine ALK.e (ope_store rfl (eB rfl) (eB rfl) Cs.a rfl rfl rfl) rfl rfl ?_ | refine ALK.e (ope_storeRow rfl rfl (eB rfl) (eB rfl) (oc_val rfl) rfl rfl (by assumption)) rfl rfl ?_); refine ALK.nil ?_; try show WP _ _ _ _ _ _)
        ((repeat apply WP.seq); apply WP.lreg; refine nM rfl rfl ?_; refine ALK.e (ope_callE [1] (ref_operand_fn (byteE r3).2) EvsS.a rfl rfl rfl HIn.a) rfl rfl ?_; (first | refine ALK.n (opn_field (o := 1) rfl (eB rfl)) rfl ?_ | refine ALK.n (opn_fieldOff (o := 1) rfl (eB rfl)) rfl ?_); (first | refine ALK.e (ope_store rfl (eB rfl) (eB rfl) Cs.a rfl rfl rfl) rfl rfl ?_ | refine ALK.e (ope_storeRow rfl rfl (eB rfl) (eB rfl) (oc_val rfl) rfl rfl (by assumption)) rfl rfl ?_); refine ALK.nil ?_; try show WP _ _ _ _ _ _)
        ((repeat apply WP.seq); apply WP.lreg; refine nM rfl rfl ?_; refine ALK.e (ope_callE [1] (ref_operand_fn (opE (byteE r3).2).2) EvsS.a rfl rfl rfl HIn.a) rfl rfl ?_; (first | refine ALK.n (opn_field (o := 3) rfl (eB rfl)) rfl ?_ | refine ALK.n (opn_fieldOff (o := 3) rfl (eB rfl)) rfl ?_); (first | refine ALK.e (ope_store rfl (eB rfl) (eB rfl) Cs.a rfl rfl rfl) rfl rfl ?_ | refine ALK.e (ope_storeRow rfl rfl (eB rfl) (eB rfl) (oc_val rfl) rfl rfl (by assumption)) rfl rfl ?_); refine ALK.nil ?_; try show WP _ _ _ _ _ _)
        ((repeat apply WP.seq); apply WP.lreg; (first | refine ALK.n (opn_field (o := 1) rfl (eB rfl)) rfl ?_ | refine ALK.n (opn_fieldOff (o := 1) rfl (eB rfl)) rfl ?_); (first | refine ALK.n (opn_load rfl (eB rfl) rfl) rfl ?_ | refine ALK.r OpR.ld rfl ?_); (first | refine ALK.n (opn_load rfl (eB rfl) rfl) rfl ?_ | refine ALK.r OpR.ld rfl ?_); refine ALK.n (opn_slit rfl rfl rfl rfl rfl rfl (Pc rfl (eB rfl) Cs.a rfl rfl Parts.nil) rfl) rfl ?_; refine ALK.e (ope_append (b := 40) [⟨(byteE r3).1, (opE (byteE r3).2).1, (opE (opE (byteE r3).2).2).1⟩] rfl rfl rfl rfl rfl (eB rfl) (eB rfl) rfl rfl (by simp; omega) rfl) rfl rfl ?_; (first | refine ALK.n (opn_field (o := 1) rfl (eB rfl)) rfl ?_ | refine ALK.n (opn_fieldOff (o := 1) rfl (eB rfl)) rfl ?_); (first | refine ALK.e (ope_store rfl (eB rfl) (eB rfl) Cs.a rfl rfl rfl) rfl rfl ?_ | refine ALK.e (ope_storeRow rfl rfl (eB rfl) (eB rfl) (oc_val rfl) rfl rfl (by assumption)) rfl rfl ?_); refine ALK.nil ?_; try show WP _ _ _ _ _ _)
        ((repeat apply WP.seq); apply WP.lreg; refine nM rfl rfl ?_; refine ALK.n OpN.ar rfl ?_; refine nA rfl rfl ?_; refine ALK.nil ?_; try show WP _ _ _ _ _ _)
        show ∃ _, _ ∧ _ ∧ _
        exact ⟨(j2 + 1, gl ++ [(guardE r3).1], (guardE r3).2), ⟨by simp only; omega, by rw [repE_snoc, hm2]⟩, by simp only; omega, Shift.sub [(0, 0), (1, 1), (2, 2), (3, 3), (4, 4), (5, 7)] rfl (SubE.cons rfl (SLe.im (ILe.int (by simp only [wrap64]; omega))) SubE.a) (SubH.cons rfl rfl (ObLe.blk SLes.a) (SubH.cons rfl rfl (ObLe.blk SLes.a) (SubH.cons rfl rfl (ObLe.blk SLes.a) (SubH.cons rfl rfl (ObLe.row rfl) (SubH.cons rfl rfl (ObLe.blk SLes.a) (SubH.cons rfl rfl (ObLe.row rfl) (SubH.nil)))))))⟩
      · ((repeat apply WP.seq); refine WP.exit ?_; show WP _ _ _ _ _ _)
        have hje : j2 = c2.toNat := by simp at h; omega
        subst hje
        have hL2 : listE guardE r2 = (gl, r3) := by rw [listE_cut, ← hc2e, ← hq2e]; exact hm2
        clear hq2e hc2e
        refine WP.shift (Shift.frzIn 4 1 rfl rfl rfl rfl) ?_
        ((repeat apply WP.seq); apply WP.lreg; refine nM rfl rfl ?_; refine ALK.e (ope_callE [1] (ref_byte_fn r3) EvsS.a rfl rfl rfl HIn.a) rfl rfl ?_; refine nA rfl rfl ?_; refine ALK.nil ?_; try show WP _ _ _ _ _ _)
        refine WP.shift (Shift.row0In 4 2 59 6 cS (fun _ => rfl) rfl rfl rfl) ?_
        have hc3 := ok_byte r3
        unfold IsB at hc3
        obtain ⟨c3, hc3e⟩ : ∃ n, n = (byteE r3).1 := ⟨_, rfl⟩
        obtain ⟨q3, hq3e⟩ : ∃ r', r' = (byteE r3).2 := ⟨_, rfl⟩
        rw [← hc3e] at hc3
        rw [← hc3e, ← hq3e]
        ((repeat apply WP.seq); apply WP.block)
        refine WP.loop (fun c : Nat × List SetT × List UInt8 => ⟨[(11, .im (IV.int (c3 - (c.1 : Int)))), (7, .off 4 0), (6, .im (IV.int (n0 - (k : Int)))), (0, .im (IV.str b)), (2, .off 0 0), (3, .im (IV.bool false)), (4, .off 1 0), (5, .off 2 0)], [(0, .blk 24 [.im (IV.int 0), .im (IV.val (.slice none 0 0))]), (1, eyeB c.2.2), (2, .blk 24 [.im (IV.int sh), .row 3 l.length]), (3, .row 50 3 cT l), (4, .blk 50 [.im (intsV m), .im (IV.view 5 cG gl), .row 5 c.2.1.length]), (5, .row 59 6 cS c.2.1)], 6⟩) (fun c => (c.1 : Int) ≤ c3 ∧ repE setE c.1 q3 = (c.2.1, c.2.2)) (fun c => (c3).toNat - c.1) (0, [], q3) ⟨hc3.1, rfl⟩ (Shift.sub [(0, 0), (1, 1), (2, 2), (3, 3), (4, 4), (5, 6)] rfl (SubE.cons rfl (SLe.im (ILe.int (by simp))) SubE.a) (SubH.cons rfl rfl (ObLe.blk SLes.a) (SubH.cons rfl rfl (ObLe.blk SLes.a) (SubH.cons rfl rfl (ObLe.blk SLes.a) (SubH.cons rfl rfl (ObLe.row rfl) (SubH.cons rfl rfl (ObLe.blk SLes.a) (SubH.cons rfl rfl (ObLe.row rfl) (SubH.nil)))))))) ?_
        rintro ⟨j3, sl, r4⟩ ⟨hj3, hm3⟩
        simp only at hj3 hm3
        have hml3 : sl.length = j3 := by have := repE_len setE j3 q3; rw [hm3] at this; exact this
        ((repeat apply WP.seq); apply WP.lreg; refine nM rfl rfl ?_; refine ALK.n OpN.cm rfl ?_; refine ALK.nil ?_; try show WP _ _ _ _ _ _)
        ((repeat apply WP.seq); refine WP.cond rfl (fun h => ?_) (fun h => ?_))
        · (refine WP.skip ?_; show WP _ _ _ _ _ _)
          have hlt3 : (j3 : Int) < c3 := by simp at h; omega
          ((repeat apply WP.seq); apply WP.block)
          ((repeat apply WP.seq); apply WP.lreg; refine nM rfl rfl ?_; refine ALK.e (ope_callE [1] (ref_byte_fn r4) EvsS.a rfl rfl rfl HIn.a) rfl rfl ?_; (first | refine ALK.n (opn_build rfl rfl rfl rfl (Pc rfl (eB rfl) Cs.a rfl rfl Parts.nil)) rfl ?_ | refine ALK.n (opn_buildA rfl rfl rfl rfl rfl (Pc rfl (eB rfl) Cs.a rfl rfl Parts.nil)) rfl ?_); refine ALK.a (opa_alloc rfl rfl) rfl ?_; (first | refine ALK.e (ope_store rfl (eB rfl) (eB rfl) Cs.a rfl rfl rfl) rfl rfl ?_ | refine ALK.e (ope_storeRow rfl rfl (eB rfl) (eB rfl) (oc_val rfl) rfl rfl (by assumption)) rfl rfl ?_); refine ALK.nil ?_; try show WP _ _ _ _ _ _)
          ((repeat apply WP.seq); apply WP.lreg; refine nM rfl rfl ?_; refine ALK.e (ope_callE [1] (ref_byte_fn (byteE r4).2) EvsS.a rfl rfl rfl HIn.a) rfl rfl ?_; (first | refine ALK.n (opn_field (o := 1) rfl (eB rfl)) rfl ?_ | refine ALK.n (opn_fieldOff (o := 1) rfl (eB rfl)) rfl ?_); (first | refine ALK.e (ope_store rfl (eB rfl) (eB rfl) Cs.a rfl rfl rfl) rfl rfl ?_ | refine ALK.e (ope_storeRow rfl rfl (eB rfl) (eB rfl) (oc_val rfl) rfl rfl (by assumption)) rfl rfl ?_); refine ALK.nil ?_; try show WP _ _ _ _ _ _)
          ((repeat apply WP.seq); apply WP.lreg; refine nM rfl rfl ?_; refine ALK.e (ope_callE [1] (ref_operand_fn (byteE (byteE r4).2).2) EvsS.a rfl rfl rfl HIn.a) rfl rfl ?_; (first | refine ALK.n (opn_field (o := 2) rfl (eB rfl)) rfl ?_ | refine ALK.n (opn_fieldOff (o := 2) rfl (eB rfl)) rfl ?_); (first | refine ALK.e (ope_store rfl (eB rfl) (eB rfl) Cs.a rfl rfl rfl) rfl rfl ?_ | refine ALK.e (ope_storeRow rfl rfl (eB rfl) (eB rfl) (oc_val rfl) rfl rfl (by assumption)) rfl rfl ?_); refine ALK.nil ?_; try show WP _ _ _ _ _ _)
          ((repeat apply WP.seq); apply WP.lreg; refine nM rfl rfl ?_; refine ALK.e (ope_callE [1] (ref_operand_fn (opE (byteE (byteE r4).2).2).2) EvsS.a rfl rfl rfl HIn.a) rfl rfl ?_; (first | refine ALK.n (opn_field (o := 4) rfl (eB rfl)) rfl ?_ | refine ALK.n (opn_fieldOff (o := 4) rfl (eB rfl)) rfl ?_); (first | refine ALK.e (ope_store rfl (eB rfl) (eB rfl) Cs.a rfl rfl rfl) rfl rfl ?_ | refine ALK.e (ope_storeRow rfl rfl (eB rfl) (eB rfl) (oc_val rfl) rfl rfl (by assumption)) rfl rfl ?_); refine ALK.nil ?_; try show WP _ _ _ _ _ _)
          ((repeat apply WP.seq); apply WP.lreg; (first | refine ALK.n (opn_field (o := 2) rfl (eB rfl)) rfl ?_ | refine ALK.n (opn_fieldOff (o := 2) rfl (eB rfl)) rfl ?_); (first | refine ALK.n (opn_load rfl (eB rfl) rfl) rfl ?_ | refine ALK.r OpR.ld rfl ?_); (first | refine ALK.n (opn_load rfl (eB rfl) rfl) rfl ?_ | refine ALK.r OpR.ld rfl ?_); refine ALK.n (opn_slit rfl rfl rfl rfl rfl rfl (Pc rfl (eB rfl) Cs.a rfl rfl Parts.nil) rfl) rfl ?_; refine ALK.e (ope_append (b := 48) [⟨(byteE r4).1, (byteE (byteE r4).2).1, (opE (byteE (byteE r4).2).2).1, (opE (opE (byteE (byteE r4).2).2).2).1⟩] rfl rfl rfl rfl rfl (eB rfl) (eB rfl) rfl rfl (by simp; omega) rfl) rfl rfl ?_; (first | refine ALK.n (opn_field (o := 2) rfl (eB rfl)) rfl ?_ | refine ALK.n (opn_fieldOff (o := 2) rfl (eB rfl)) rfl ?_); (first | refine ALK.e (ope_store rfl (eB rfl) (eB rfl) Cs.a rfl rfl rfl) rfl rfl ?_ | refine ALK.e (ope_storeRow rfl rfl (eB rfl) (eB rfl) (oc_val rfl) rfl rfl (by assumption)) rfl rfl ?_); refine ALK.nil ?_; try show WP _ _ _ _ _ _)
          ((repeat apply WP.seq); apply WP.lreg; refine nM rfl rfl ?_; refine ALK.n OpN.ar rfl ?_; refine nA rfl rfl ?_; refine ALK.nil ?_; try show WP _ _ _ _ _ _)
          show ∃ _, _ ∧ _ ∧ _
          exact ⟨(j3 + 1, sl ++ [(setE r4).1], (setE r4).2), ⟨by simp only; omega, by rw [repE_snoc, hm3]⟩, by simp only; omega, Shift.sub [(0, 0), (1, 1), (2, 2), (3, 3), (4, 4), (5, 7)] rfl (SubE.cons rfl (SLe.im (ILe.int (by simp only [wrap64]; omega))) SubE.a) (SubH.cons rfl rfl (ObLe.blk SLes.a) (SubH.cons rfl rfl (ObLe.blk SLes.a) (SubH.cons rfl rfl (ObLe.blk SLes.a) (SubH.cons rfl rfl (ObLe.row rfl) (SubH.cons rfl rfl (ObLe.blk SLes.a) (SubH.cons rfl rfl (ObLe.row rfl) (SubH.nil)))))))⟩
        · ((repeat apply WP.seq); refine WP.exit ?_; show WP _ _ _ _ _ _)
          have hje : j3 = c3.toNat := by simp at h; omega
          subst hje
          have hL3 : listE setE r3 = (sl, r4) := by rw [listE_cut, ← hc3e, ← hq3e]; exact hm3
          clear hq3e hc3e
          refine WP.shift (Shift.frzIn 4 2 rfl rfl rfl rfl) ?_
          ((repeat apply WP.seq); apply WP.lreg; (first | refine ALK.n (opn_field (o := 1) rfl (eB rfl)) rfl ?_ | refine ALK.n (opn_fieldOff (o := 1) rfl (eB rfl)) rfl ?_); (first | refine ALK.n (opn_load rfl (eB rfl) rfl) rfl ?_ | refine ALK.r OpR.ld rfl ?_); (first | refine ALK.n (opn_load rfl (eB rfl) rfl) rfl ?_ | refine ALK.r OpR.ld rfl ?_); refine ALK.n (opn_slit rfl rfl rfl rfl rfl rfl (Pc rfl (eB rfl) Cs.a rfl rfl Parts.nil) rfl) rfl ?_; refine ALK.e (ope_append (b := 72) [⟨m, gl, sl⟩] rfl rfl rfl rfl rfl (eB rfl) (eB rfl) rfl rfl (by simp; omega) rfl) rfl rfl ?_; (first | refine ALK.n (opn_field (o := 1) rfl (eB rfl)) rfl ?_ | refine ALK.n (opn_fieldOff (o := 1) rfl (eB rfl)) rfl ?_); (first | refine ALK.e (ope_store rfl (eB rfl) (eB rfl) Cs.a rfl rfl rfl) rfl rfl ?_ | refine ALK.e (ope_storeRow rfl rfl (eB rfl) (eB rfl) (oc_val rfl) rfl rfl (by assumption)) rfl rfl ?_); refine ALK.nil ?_; try show WP _ _ _ _ _ _)
          ((repeat apply WP.seq); apply WP.lreg; refine nM rfl rfl ?_; refine ALK.n OpN.ar rfl ?_; refine nA rfl rfl ?_; refine ALK.nil ?_; try show WP _ _ _ _ _ _)
          show ∃ _, _ ∧ _ ∧ _
          have ht : txnE r = (⟨m, gl, sl⟩, r4) := by
            unfold txnE andE
            rw [hL1]
            simp only
            rw [hL2]
            simp only
            rw [hL3]; rfl
          exact ⟨(k + 1, l ++ [⟨m, gl, sl⟩], r4), ⟨by simp only; omega, by rw [repE_snoc, hr, ht]⟩, by simp only; omega, Shift.sub [(0, 0), (1, 1), (2, 2), (3, 6)] rfl (SubE.cons rfl (SLe.im (ILe.int (by simp only [wrap64]; omega))) SubE.a) (SubH.cons rfl rfl (ObLe.blk SLes.a) (SubH.cons rfl rfl (ObLe.blk SLes.a) (SubH.cons rfl rfl (ObLe.blk SLes.a) (SubH.cons rfl rfl (ObLe.row rfl) (SubH.nil)))))⟩
  · ((repeat apply WP.seq); refine WP.exit ?_; show WP _ _ _ _ _ _)
    have hke : k = n0.toNat := by simp at h; omega
    subst hke
    rw [hr] at hq0
    have hq1 : (planE' b).1 = ⟨sh, l⟩ := by rw [hq0]
    have hPD : PlanD ⟨sh, l⟩ := by rw [← hq1]; exact ok_plan b
    refine WP.shift (Shift.frzIn 2 1 rfl rfl rfl rfl) ?_
    ((repeat apply WP.seq); apply WP.lreg; (first | refine ALK.n (opn_load rfl (eB rfl) rfl) rfl ?_ | refine ALK.r OpR.ld rfl ?_); refine ALK.n (opn_call (ref_CheckPlan_fn ⟨sh, l⟩ (planD_B hPD)) (Evs.cons Ev.a Evs.nil)) rfl ?_; refine ALK.n OpN.cm rfl ?_; refine nM rfl rfl ?_; (first | refine ALK.g (fun hb => opn_load rfl (eB rfl) rfl) rfl rfl rfl ?_ | refine ALK.rg (fun hb => opr_load rfl (eB rfl) rfl rfl) rfl rfl rfl ?_ | refine ALK.rg (fun hb => opr_loadRow rfl rfl (eB rfl) rfl (by assumption) rfl) rfl rfl rfl ?_ | refine ALK.rg (fun hb => opr_loadK0 rfl (eB rfl) rfl (by assumption) rfl) rfl rfl rfl ?_ | refine ALK.rg (fun hb => opr_loadK rfl (eB rfl) rfl (by assumption) rfl) rfl rfl rfl ?_); refine ALK.g (fun hb => opn_call (ref_PlanBytes_fn ⟨sh, l⟩ (by simpa [gd] using hb)) (Evs.cons Ev.a Evs.nil)) rfl rfl rfl ?_; refine gM rfl rfl rfl rfl ?_; refine ALK.g (fun hb => opn_cmpS (eC rfl hb) (eC rfl hb) rfl) rfl rfl rfl ?_; refine ALK.n (opn_pick_or (eB rfl) rfl rfl (fun hb2 => by first | (rw [hb2]; rfl) | (rw [hb, hb2]; rfl) | simp_all [gd])) rfl ?_; refine ALK.nil ?_; try show WP _ _ _ _ _ _)
    ((repeat apply WP.seq); refine WP.cond rfl (fun h => ?_) (fun h => ?_))
    · have hf : fromS b = (zeroP, false) := by
        unfold fromS
        rw [hq1, if_neg]
        rintro ⟨h1, h2⟩
        simp [h1, h2] at h
      rw [hf]
      ((repeat apply WP.seq); apply WP.lreg; (first | refine ALK.n (opn_build rfl rfl rfl rfl Parts.nil) rfl ?_ | refine ALK.n (opn_buildA rfl rfl rfl rfl rfl Parts.nil) rfl ?_); (first | refine ALK.e (ope_store rfl (eB rfl) (eB rfl) Cs.a rfl rfl rfl) rfl rfl ?_ | refine ALK.e (ope_storeRow rfl rfl (eB rfl) (eB rfl) (oc_val rfl) rfl rfl (by assumption)) rfl rfl ?_); refine nA rfl rfl ?_; refine ALK.nil ?_; try show WP _ _ _ _ _ _)
      ((repeat apply WP.seq); refine WP.ret ?_; first | exact RetOk.one Try.results19 ResV.a | exact RetOk.tup Try.results19 rfl ResVs.a)
    · (refine WP.skip ?_; show WP _ _ _ _ _ _)
      have hf : fromS b = (⟨sh, l⟩, true) := by
        unfold fromS
        rw [hq1]
        have h1 : checkPlan ⟨sh, l⟩ = 0 := by
          by_cases h1 : checkPlan ⟨sh, l⟩ = 0
          · exact h1
          · simp [h1] at h
        rw [if_pos ⟨h1, by simpa [h1] using h⟩]
      rw [hf]
      ((repeat apply WP.seq); apply WP.lreg; (first | refine ALK.n (opn_load rfl (eB rfl) rfl) rfl ?_ | refine ALK.r OpR.ld rfl ?_); (first | refine ALK.e (ope_store rfl (eB rfl) (eB rfl) Cs.a rfl rfl rfl) rfl rfl ?_ | refine ALK.e (ope_storeRow rfl rfl (eB rfl) (eB rfl) (oc_val rfl) rfl rfl (by assumption)) rfl rfl ?_); refine nA rfl rfl ?_; refine ALK.nil ?_; try show WP _ _ _ _ _ _)
      ((repeat apply WP.seq); refine WP.ret ?_; first | exact RetOk.one Try.results19 ResV.a | exact RetOk.tup Try.results19 rfl ResVs.a)
end Go.Proofs.Ytjgmbgfcffnanab
