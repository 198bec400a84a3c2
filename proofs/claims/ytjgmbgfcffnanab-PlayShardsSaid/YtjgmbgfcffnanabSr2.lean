/- The reference's CanOf and SameStates. -/
import Derived.Test.YtjgmbgfcffnanabSr1
namespace Go.Proofs.Ytjgmbgfcffnanab
open Go.RowKit

theorem canRow_next (p : Plan) (s : StT) (kind : Int) (n k : Nat) : canRow p s kind n (k + 1) = canRow p s kind n k ++ (if mayB p s kind n k then [(⟨kind, n, k⟩ : StepT)] else []) := by
  unfold canRow
  rw [List.range_succ, List.filter_append, List.map_append]
  congr 1
  by_cases h : mayB p s kind n k = true
  · rw [if_pos h]; simp [List.filter, h]
  · rw [if_neg h]; simp [List.filter, h]
theorem canKind_next (p : Plan) (s : StT) (kind : Int) (n : Nat) : canKind p s kind (n + 1) = canKind p s kind n ++ canRow p s kind n (mS p) := by unfold canKind; rw [List.range_succ, List.flatMap_append]; simp
theorem canRow_len (p : Plan) (s : StT) (kind : Int) (n k : Nat) : (canRow p s kind n k).length ≤ k := by
  unfold canRow; rw [List.length_map]; exact Nat.le_trans (List.length_filter_le _ _) (by simp)
theorem canKind_len (p : Plan) (s : StT) (kind : Int) : ∀ n, (canKind p s kind n).length ≤ n * mS p
  | 0 => by simp [canKind]
  | n + 1 => by
    have h1 := canKind_len p s kind n
    have h2 := canRow_len p s kind n (mS p)
    rw [canKind_next, List.length_append, Nat.add_mul]; omega
def canTo (p : Plan) (s : StT) (c : Nat) : List StepT := if c ≤ 1 then [] else if c = 2 then canKind p s 1 (nT p) else canL p s
theorem canTo_next {p : Plan} {s : StT} {c : Nat} (h1 : 1 ≤ c) (h2 : c ≤ 2) : canTo p s (c + 1) = canTo p s c ++ canKind p s (c : Int) (nT p) := by
  have : c = 1 ∨ c = 2 := by omega
  rcases this with rfl | rfl <;> rfl
theorem canTo_len {p : Plan} {s : StT} (h1 : mS p ≤ 4) (h2 : nT p ≤ 8) (c : Nat) : (canTo p s c).length ≤ 64 := by
  have a := canKind_len p s 1 (nT p)
  have b := canKind_len p s 2 (nT p)
  have hm : nT p * mS p ≤ 8 * 4 := Nat.mul_le_mul h2 h1
  unfold canTo canL
  split
  · simp
  · split
    · omega
    · rw [List.length_append]; omega
set_option maxRecDepth 100000 in
set_option maxHeartbeats 2000000 in
theorem CanOf_fn (p : Plan) (s : StT) (v : Valid p s) : Fn (Cfg.mk Try.prog (ttAt ttl) ttl_ok.ok mixd) 46 [planV p, stV s] (stpsV (canL p s)) := by
  obtain ⟨hm, hm1, hm4, hn8, hall⟩ := plan_m v.plan
  have hnT : nT p = p.txns.length := rfl
  have hmn : nT p * mS p ≤ 8 * 4 := Nat.mul_le_mul hn8 hm4
  refine Fn.of_wp _ Try.func46 rfl (by kernel_rfl) Try.ntmps46 rfl ?_
  intro F hD hG
  ((repeat apply WP.seq); apply WP.lreg; refine ALK.n (opn_box (eB rfl) Cs.a rfl) rfl ?_; refine ALK.n (opn_box (eB rfl) Cs.a rfl) rfl ?_; refine nA rfl rfl ?_; refine ALK.nil ?_; try show WP _ _ _ _ _ _)
  ((repeat apply WP.seq); apply WP.lreg; refine nA rfl rfl ?_; refine ALK.nil ?_; try show WP _ _ _ _ _ _)
  refine WP.shift (Shift.row0 5 87 3 cStp (fun _ => rfl) rfl) ?_
  ((repeat apply WP.seq); apply WP.lreg; refine nA rfl rfl ?_; refine ALK.nil ?_; try show WP _ _ _ _ _ _)
  ((repeat apply WP.seq); apply WP.block)
  refine WP.loop (fun c : Nat => ⟨[(6, .im (IV.int c)), (5, .row 0 (canTo p s c).length), (2, .im (IV.ptr (cP p))), (3, .im (IV.ptr (cSt s)))], [(0, .row 87 3 cStp (canTo p s c))], 1⟩) (fun c => 1 ≤ c ∧ c ≤ 3) (fun c => 3 - c) 1 ⟨by omega, by omega⟩ (Shift.sub [(0, 0)] rfl SubE.a (SubH.cons rfl rfl (ObLe.row rfl) SubH.nil)) ?_
  rintro c ⟨hc1, hc3⟩
  have hL := canTo_len (p := p) (s := s) hm4 hn8 c
  ((repeat apply WP.seq); apply WP.lreg; refine nM rfl rfl ?_; refine ALK.n OpN.cm rfl ?_; refine ALK.nil ?_; try show WP _ _ _ _ _ _)
  ((repeat apply WP.seq); refine WP.cond rfl (fun h => ?_) (fun h => ?_))
  · (refine WP.skip ?_; show WP _ _ _ _ _ _)
    have hc2 : c ≤ 2 := by simp at h; omega
    have hkd : (c : Int) = 1 ∨ (c : Int) = 2 := by omega
    have hcn := canTo_next (p := p) (s := s) hc1 hc2
    ((repeat apply WP.seq); apply WP.block)
    ((repeat apply WP.seq); apply WP.lreg; refine nA rfl rfl ?_; refine ALK.nil ?_; try show WP _ _ _ _ _ _)
    ((repeat apply WP.seq); apply WP.block)
    refine WP.loop (fun n : Nat => ⟨[(7, .im (IV.int n)), (6, .im (IV.int c)), (5, .row 0 (canTo p s c ++ canKind p s c n).length), (2, .im (IV.ptr (cP p))), (3, .im (IV.ptr (cSt s)))], [(0, .row 87 3 cStp (canTo p s c ++ canKind p s c n))], 1⟩) (fun n => n ≤ nT p) (fun n => nT p - n) 0 (Nat.zero_le _) (Shift.sub [(0, 0)] rfl (by repeat (first | exact SubE.nil | refine SubE.cons rfl (by first | exact SLe.row rfl (by simp [canKind]; done) | exact SLe.a) ?_)) (SubH.cons rfl rfl (ObLe.row (by simp [canKind])) SubH.nil)) ?_
    rintro n hn
    have hK := canKind_len p s c n
    have hnm : n * mS p ≤ nT p * mS p := Nat.mul_le_mul_right _ hn
    ((repeat apply WP.seq); apply WP.lreg; refine nM rfl rfl ?_; (first | refine ALK.n (opn_field (o := 1) rfl (eB rfl)) rfl ?_ | refine ALK.n (opn_fieldOff (o := 1) rfl (eB rfl)) rfl ?_); (first | refine ALK.n (opn_load rfl (eB rfl) rfl) rfl ?_ | refine ALK.r OpR.ld rfl ?_); refine ALK.n OpN.ln rfl ?_; refine ALK.n OpN.cm rfl ?_; refine ALK.nil ?_; try show WP _ _ _ _ _ _)
    ((repeat apply WP.seq); refine WP.cond rfl (fun h => ?_) (fun h => ?_))
    · (refine WP.skip ?_; show WP _ _ _ _ _ _)
      have hlt : n < nT p := by simp at h; omega
      have hkn := canKind_next p s c n
      ((repeat apply WP.seq); apply WP.block)
      ((repeat apply WP.seq); apply WP.lreg; refine nA rfl rfl ?_; refine ALK.nil ?_; try show WP _ _ _ _ _ _)
      ((repeat apply WP.seq); apply WP.block)
      refine WP.loop (fun k : Nat => ⟨[(8, .im (IV.int k)), (7, .im (IV.int n)), (6, .im (IV.int c)), (5, .row 0 (canTo p s c ++ canKind p s c n ++ canRow p s c n k).length), (2, .im (IV.ptr (cP p))), (3, .im (IV.ptr (cSt s)))], [(0, .row 87 3 cStp (canTo p s c ++ canKind p s c n ++ canRow p s c n k))], 1⟩) (fun k => k ≤ mS p) (fun k => mS p - k) 0 (Nat.zero_le _) (Shift.sub [(0, 0)] rfl (by repeat (first | exact SubE.nil | refine SubE.cons rfl (by first | exact SLe.row rfl (by simp [canRow]; done) | exact SLe.a) ?_)) (SubH.cons rfl rfl (ObLe.row (by simp [canRow])) SubH.nil)) ?_
      rintro k hk
      have hR := canRow_len p s c n k
      have hal : (canTo p s c ++ canKind p s c n ++ canRow p s c n k).length ≤ 200 := by rw [List.length_append, List.length_append]; omega
      ((repeat apply WP.seq); apply WP.lreg; refine nM rfl rfl ?_; (first | refine ALK.n (opn_field (o := 0) rfl (eB rfl)) rfl ?_ | refine ALK.n (opn_fieldOff (o := 0) rfl (eB rfl)) rfl ?_); (first | refine ALK.n (opn_load rfl (eB rfl) rfl) rfl ?_ | refine ALK.r OpR.ld rfl ?_); refine ALK.n OpN.cm rfl ?_; refine ALK.nil ?_; try show WP _ _ _ _ _ _)
      ((repeat apply WP.seq); refine WP.cond rfl (fun h => ?_) (fun h => ?_))
      · (refine WP.skip ?_; show WP _ _ _ _ _ _)
        have hkm : k < mS p := by simp at h; omega
        have hrn := canRow_next p s c n k
        ((repeat apply WP.seq); apply WP.block)
        ((repeat apply WP.seq); apply WP.lreg; refine nM rfl rfl ?_; refine nM rfl rfl ?_; refine nM rfl rfl ?_; (first | refine ALK.n (opn_build rfl rfl rfl rfl (Pc rfl (eB rfl) Cs.a rfl rfl (Pc rfl (eB rfl) Cs.a rfl rfl (Pc rfl (eB rfl) Cs.a rfl rfl Parts.nil)))) rfl ?_ | refine ALK.n (opn_buildA rfl rfl rfl rfl rfl (Pc rfl (eB rfl) Cs.a rfl rfl (Pc rfl (eB rfl) Cs.a rfl rfl (Pc rfl (eB rfl) Cs.a rfl rfl Parts.nil)))) rfl ?_); refine ALK.a (opa_alloc rfl rfl) rfl ?_; (first | refine ALK.e (ope_store rfl (eB rfl) (eB rfl) Cs.a rfl rfl rfl) rfl rfl ?_ | refine ALK.e (ope_storeRow rfl rfl (eB rfl) (eB rfl) (oc_val rfl) rfl rfl (by assumption)) rfl rfl ?_); refine ALK.nil ?_; try show WP _ _ _ _ _ _)
        refine WP.shift (Shift.frzBlk 9 rfl rfl rfl) ?_
        ((repeat apply WP.seq); apply WP.lreg; (first | refine ALK.n (opn_load rfl (eB rfl) rfl) rfl ?_ | refine ALK.r OpR.ld rfl ?_); (first | refine ALK.n (opn_load rfl (eB rfl) rfl) rfl ?_ | refine ALK.r OpR.ld rfl ?_); (first | refine ALK.n (opn_load rfl (eB rfl) rfl) rfl ?_ | refine ALK.r OpR.ld rfl ?_); refine ALK.n (opn_call (R_may_fn p s c n k v hkd hlt hkm) (Evs.cons Ev.a (Evs.cons Ev.a (Evs.cons Ev.a Evs.nil)))) rfl ?_; refine ALK.nil ?_; try show WP _ _ _ _ _ _)
        ((repeat apply WP.seq); refine WP.cond rfl (fun h => ?_) (fun h => ?_))
        · rw [if_pos h] at hrn
          have hn2 : canTo p s c ++ canKind p s c n ++ canRow p s c n (k + 1) = canTo p s c ++ canKind p s c n ++ canRow p s c n k ++ [(⟨c, n, k⟩ : StepT)] := by rw [hrn, ← List.append_assoc]
          ((repeat apply WP.seq); apply WP.lreg; refine nM rfl rfl ?_; (first | refine ALK.n (opn_load rfl (eB rfl) rfl) rfl ?_ | refine ALK.r OpR.ld rfl ?_); refine ALK.n (opn_slit rfl rfl rfl rfl rfl rfl (Pc rfl (eB rfl) Cs.a rfl rfl Parts.nil) rfl) rfl ?_; refine ALK.e (ope_append (b := 24) [(⟨c, n, k⟩ : StepT)] rfl rfl rfl rfl rfl (eB rfl) (eB rfl) rfl rfl (by simp only [List.length_cons, List.length_nil]; omega) rfl) rfl rfl ?_; refine nA rfl rfl ?_; refine ALK.nil ?_; try show WP _ _ _ _ _ _)
          ((repeat apply WP.seq); apply WP.lreg; refine nM rfl rfl ?_; refine ALK.n OpN.ar rfl ?_; refine nA rfl rfl ?_; refine ALK.nil ?_; try show WP _ _ _ _ _ _)
          show ∃ _, _ ∧ _ ∧ _
          exact ⟨k + 1, by omega, by omega, Shift.sub [(0, 2)] rfl (by repeat (first | exact SubE.nil | refine SubE.cons rfl (by first | exact SLe.row rfl (by simp only [hn2, List.length_append]; done) | exact SLe.a) ?_)) (SubH.cons rfl rfl (ObLe.row hn2.symm) SubH.nil)⟩
        · rw [if_neg (by rw [h]; simp), List.append_nil] at hrn
          (refine WP.skip ?_; show WP _ _ _ _ _ _)
          ((repeat apply WP.seq); apply WP.lreg; refine nM rfl rfl ?_; refine ALK.n OpN.ar rfl ?_; refine nA rfl rfl ?_; refine ALK.nil ?_; try show WP _ _ _ _ _ _)
          show ∃ _, _ ∧ _ ∧ _
          rw [← hrn]
          exact ⟨k + 1, by omega, by omega, (Shift.sub [(0, 0)] rfl SubE.a SubH.a)⟩
      · ((repeat apply WP.seq); refine WP.exit ?_; show WP _ _ _ _ _ _)
        have hkm : k = mS p := by simp at h; omega
        subst hkm
        have hx : canTo p s c ++ canKind p s c (n + 1) = canTo p s c ++ canKind p s c n ++ canRow p s c n (mS p) := by rw [hkn, List.append_assoc]
        ((repeat apply WP.seq); apply WP.lreg; refine nM rfl rfl ?_; refine ALK.n OpN.ar rfl ?_; refine nA rfl rfl ?_; refine ALK.nil ?_; try show WP _ _ _ _ _ _)
        show ∃ _, _ ∧ _ ∧ _
        rw [← hx]
        exact ⟨n + 1, by omega, by omega, (Shift.sub [(0, 0)] rfl SubE.a SubH.a)⟩
    · ((repeat apply WP.seq); refine WP.exit ?_; show WP _ _ _ _ _ _)
      have hn2 : n = nT p := by simp at h; omega
      subst hn2
      rw [← hcn]
      ((repeat apply WP.seq); apply WP.lreg; refine nM rfl rfl ?_; refine ALK.n OpN.ar rfl ?_; refine nA rfl rfl ?_; refine ALK.nil ?_; try show WP _ _ _ _ _ _)
      show ∃ _, _ ∧ _ ∧ _
      exact ⟨c + 1, ⟨by omega, by omega⟩, by omega, (Shift.sub [(0, 0)] rfl SubE.a SubH.a)⟩
  · ((repeat apply WP.seq); refine WP.exit ?_; show WP _ _ _ _ _ _)
    have hc : c = 3 := by simp at h; omega
    subst hc
    have hx : canTo p s 3 = canL p s := rfl
    rw [hx]
    refine WP.shift (Shift.frzRow 5 rfl rfl) ?_
    ((repeat apply WP.seq); apply WP.lreg; refine nM rfl rfl ?_; refine nA rfl rfl ?_; refine ALK.nil ?_; try show WP _ _ _ _ _ _)
    ((repeat apply WP.seq); refine WP.ret ?_; first | exact RetOk.one Try.results46 ResV.a | exact RetOk.tup Try.results46 rfl ResVs.a)
theorem st_eq {a b : StT} : a = b ↔ a.store = b.store ∧ a.rd = b.rd ∧ a.wr = b.wr ∧ a.vals = b.vals := by
  obtain ⟨a1, a2, a3, a4⟩ := a
  obtain ⟨b1, b2, b3, b4⟩ := b
  simp
set_option maxRecDepth 100000 in
set_option maxHeartbeats 2000000 in
theorem SameStates_fn (a b : StT) : Fn (Cfg.mk Try.prog (ttAt ttl) ttl_ok.ok mixd) 33 [stV a, stV b] (IV.bool (decide (a = b))) := by
  refine Fn.of_wp _ Try.func33 rfl (by kernel_rfl) Try.ntmps33 rfl ?_
  intro F hD hG
  ((repeat apply WP.seq); apply WP.lreg; refine ALK.n (opn_box (eB rfl) Cs.a rfl) rfl ?_; refine ALK.n (opn_box (eB rfl) Cs.a rfl) rfl ?_; refine nA rfl rfl ?_; refine ALK.nil ?_; try show WP _ _ _ _ _ _)
  ((repeat apply WP.seq); apply WP.lreg; (first | refine ALK.n (opn_field (o := 0) rfl (eB rfl)) rfl ?_ | refine ALK.n (opn_fieldOff (o := 0) rfl (eB rfl)) rfl ?_); (first | refine ALK.n (opn_load rfl (eB rfl) rfl) rfl ?_ | refine ALK.r OpR.ld rfl ?_); (first | refine ALK.n (opn_field (o := 0) rfl (eB rfl)) rfl ?_ | refine ALK.n (opn_fieldOff (o := 0) rfl (eB rfl)) rfl ?_); (first | refine ALK.n (opn_load rfl (eB rfl) rfl) rfl ?_ | refine ALK.r OpR.ld rfl ?_); refine ALK.n (opn_call (SameInts_fn _ _) (Evs.cons Ev.a (Evs.cons Ev.a Evs.nil))) rfl ?_; refine ALK.n (opn_not (eB rfl)) rfl ?_; refine nM rfl rfl ?_; (first | refine ALK.g (fun hb => opn_field (o := 1) rfl (eB rfl)) rfl rfl rfl ?_ | refine ALK.g (fun hb => opn_fieldOff (o := 1) rfl (eB rfl)) rfl rfl rfl ?_); (first | refine ALK.g (fun hb => opn_load rfl (eC rfl hb) rfl) rfl rfl rfl ?_ | refine ALK.rg (fun hb => opr_load rfl (eC rfl hb) rfl rfl) rfl rfl rfl ?_ | refine ALK.rg (fun hb => opr_loadRow rfl rfl (eC rfl hb) rfl (by assumption) rfl) rfl rfl rfl ?_ | refine ALK.rg (fun hb => opr_loadK0 rfl (eC rfl hb) rfl (by assumption) rfl) rfl rfl rfl ?_ | refine ALK.rg (fun hb => opr_loadK rfl (eC rfl hb) rfl (by assumption) rfl) rfl rfl rfl ?_); (first | refine ALK.g (fun hb => opn_len rfl (eC rfl hb)) rfl rfl rfl ?_ | refine ALK.g (fun hb => opn_lenRow rfl (eC rfl hb)) rfl rfl rfl ?_ | refine ALK.g (fun hb => opn_lenNil rfl (eC rfl hb)) rfl rfl rfl ?_); (first | refine ALK.g (fun hb => opn_field (o := 1) rfl (eB rfl)) rfl rfl rfl ?_ | refine ALK.g (fun hb => opn_fieldOff (o := 1) rfl (eB rfl)) rfl rfl rfl ?_); (first | refine ALK.g (fun hb => opn_load rfl (eC rfl hb) rfl) rfl rfl rfl ?_ | refine ALK.rg (fun hb => opr_load rfl (eC rfl hb) rfl rfl) rfl rfl rfl ?_ | refine ALK.rg (fun hb => opr_loadRow rfl rfl (eC rfl hb) rfl (by assumption) rfl) rfl rfl rfl ?_ | refine ALK.rg (fun hb => opr_loadK0 rfl (eC rfl hb) rfl (by assumption) rfl) rfl rfl rfl ?_ | refine ALK.rg (fun hb => opr_loadK rfl (eC rfl hb) rfl (by assumption) rfl) rfl rfl rfl ?_); (first | refine ALK.g (fun hb => opn_len rfl (eC rfl hb)) rfl rfl rfl ?_ | refine ALK.g (fun hb => opn_lenRow rfl (eC rfl hb)) rfl rfl rfl ?_ | refine ALK.g (fun hb => opn_lenNil rfl (eC rfl hb)) rfl rfl rfl ?_); (first | refine ALK.g (fun hb => opn_cmp (eC rfl hb) (eC rfl hb) rfl) rfl rfl rfl ?_ | refine ALK.g (fun hb => opn_cmpB rfl (eC rfl hb) (eC rfl hb) rfl) rfl rfl rfl ?_); refine ALK.n (opn_pick_or (eB rfl) rfl rfl (fun hb2 => by first | (rw [hb2]; rfl) | (rw [hb, hb2]; rfl) | simp_all [gd])) rfl ?_; refine nM rfl rfl ?_; (first | refine ALK.g (fun hb => opn_field (o := 2) rfl (eB rfl)) rfl rfl rfl ?_ | refine ALK.g (fun hb => opn_fieldOff (o := 2) rfl (eB rfl)) rfl rfl rfl ?_); (first | refine ALK.g (fun hb => opn_load rfl (eC rfl hb) rfl) rfl rfl rfl ?_ | refine ALK.rg (fun hb => opr_load rfl (eC rfl hb) rfl rfl) rfl rfl rfl ?_ | refine ALK.rg (fun hb => opr_loadRow rfl rfl (eC rfl hb) rfl (by assumption) rfl) rfl rfl rfl ?_ | refine ALK.rg (fun hb => opr_loadK0 rfl (eC rfl hb) rfl (by assumption) rfl) rfl rfl rfl ?_ | refine ALK.rg (fun hb => opr_loadK rfl (eC rfl hb) rfl (by assumption) rfl) rfl rfl rfl ?_); (first | refine ALK.g (fun hb => opn_len rfl (eC rfl hb)) rfl rfl rfl ?_ | refine ALK.g (fun hb => opn_lenRow rfl (eC rfl hb)) rfl rfl rfl ?_ | refine ALK.g (fun hb => opn_lenNil rfl (eC rfl hb)) rfl rfl rfl ?_); (first | refine ALK.g (fun hb => opn_field (o := 2) rfl (eB rfl)) rfl rfl rfl ?_ | refine ALK.g (fun hb => opn_fieldOff (o := 2) rfl (eB rfl)) rfl rfl rfl ?_); (first | refine ALK.g (fun hb => opn_load rfl (eC rfl hb) rfl) rfl rfl rfl ?_ | refine ALK.rg (fun hb => opr_load rfl (eC rfl hb) rfl rfl) rfl rfl rfl ?_ | refine ALK.rg (fun hb => opr_loadRow rfl rfl (eC rfl hb) rfl (by assumption) rfl) rfl rfl rfl ?_ | refine ALK.rg (fun hb => opr_loadK0 rfl (eC rfl hb) rfl (by assumption) rfl) rfl rfl rfl ?_ | refine ALK.rg (fun hb => opr_loadK rfl (eC rfl hb) rfl (by assumption) rfl) rfl rfl rfl ?_); (first | refine ALK.g (fun hb => opn_len rfl (eC rfl hb)) rfl rfl rfl ?_ | refine ALK.g (fun hb => opn_lenRow rfl (eC rfl hb)) rfl rfl rfl ?_ | refine ALK.g (fun hb => opn_lenNil rfl (eC rfl hb)) rfl rfl rfl ?_); (first | refine ALK.g (fun hb => opn_cmp (eC rfl hb) (eC rfl hb) rfl) rfl rfl rfl ?_ | refine ALK.g (fun hb => opn_cmpB rfl (eC rfl hb) (eC rfl hb) rfl) rfl rfl rfl ?_); refine ALK.n (opn_pick_or (eB rfl) rfl rfl (fun hb2 => by first | (rw [hb2]; rfl) | (rw [hb, hb2]; rfl) | simp_all [gd])) rfl ?_; refine nM rfl rfl ?_; (first | refine ALK.g (fun hb => opn_field (o := 3) rfl (eB rfl)) rfl rfl rfl ?_ | refine ALK.g (fun hb => opn_fieldOff (o := 3) rfl (eB rfl)) rfl rfl rfl ?_); (first | refine ALK.g (fun hb => opn_load rfl (eC rfl hb) rfl) rfl rfl rfl ?_ | refine ALK.rg (fun hb => opr_load rfl (eC rfl hb) rfl rfl) rfl rfl rfl ?_ | refine ALK.rg (fun hb => opr_loadRow rfl rfl (eC rfl hb) rfl (by assumption) rfl) rfl rfl rfl ?_ | refine ALK.rg (fun hb => opr_loadK0 rfl (eC rfl hb) rfl (by assumption) rfl) rfl rfl rfl ?_ | refine ALK.rg (fun hb => opr_loadK rfl (eC rfl hb) rfl (by assumption) rfl) rfl rfl rfl ?_); (first | refine ALK.g (fun hb => opn_len rfl (eC rfl hb)) rfl rfl rfl ?_ | refine ALK.g (fun hb => opn_lenRow rfl (eC rfl hb)) rfl rfl rfl ?_ | refine ALK.g (fun hb => opn_lenNil rfl (eC rfl hb)) rfl rfl rfl ?_); (first | refine ALK.g (fun hb => opn_field (o := 3) rfl (eB rfl)) rfl rfl rfl ?_ | refine ALK.g (fun hb => opn_fieldOff (o := 3) rfl (eB rfl)) rfl rfl rfl ?_); (first | refine ALK.g (fun hb => opn_load rfl (eC rfl hb) rfl) rfl rfl rfl ?_ | refine ALK.rg (fun hb => opr_load rfl (eC rfl hb) rfl rfl) rfl rfl rfl ?_ | refine ALK.rg (fun hb => opr_loadRow rfl rfl (eC rfl hb) rfl (by assumption) rfl) rfl rfl rfl ?_ | refine ALK.rg (fun hb => opr_loadK0 rfl (eC rfl hb) rfl (by assumption) rfl) rfl rfl rfl ?_ | refine ALK.rg (fun hb => opr_loadK rfl (eC rfl hb) rfl (by assumption) rfl) rfl rfl rfl ?_); (first | refine ALK.g (fun hb => opn_len rfl (eC rfl hb)) rfl rfl rfl ?_ | refine ALK.g (fun hb => opn_lenRow rfl (eC rfl hb)) rfl rfl rfl ?_ | refine ALK.g (fun hb => opn_lenNil rfl (eC rfl hb)) rfl rfl rfl ?_); (first | refine ALK.g (fun hb => opn_cmp (eC rfl hb) (eC rfl hb) rfl) rfl rfl rfl ?_ | refine ALK.g (fun hb => opn_cmpB rfl (eC rfl hb) (eC rfl hb) rfl) rfl rfl rfl ?_); refine ALK.n (opn_pick_or (eB rfl) rfl rfl (fun hb2 => by first | (rw [hb2]; rfl) | (rw [hb, hb2]; rfl) | simp_all [gd])) rfl ?_; refine ALK.nil ?_; try show WP _ _ _ _ _ _)
  ((repeat apply WP.seq); refine WP.cond rfl (fun h => ?_) (fun h => ?_))
  · ((repeat apply WP.seq); apply WP.lreg; refine nA rfl rfl ?_; refine ALK.nil ?_; try show WP _ _ _ _ _ _)
    have hr : decide (a = b) = false := decide_eq_false fun e => by
      subst e
      simp at h
    ((repeat apply WP.seq); refine WP.ret ?_; first | exact RetOk.one Try.results33 ResV.a | exact RetOk.tup Try.results33 rfl ResVs.a)
  (refine WP.skip ?_; show WP _ _ _ _ _ _)
  have hl : a.store = b.store ∧ a.rd.length = b.rd.length ∧ a.wr.length = b.wr.length ∧ a.vals.length = b.vals.length := by
    simp at h
    obtain ⟨⟨⟨h1, h2⟩, h3⟩, h4⟩ := h
    exact ⟨h1, by omega, by omega, by omega⟩
  clear h
  obtain ⟨q0, q1, q2, q3⟩ := hl
  ((repeat apply WP.seq); apply WP.lreg; refine nA rfl rfl ?_; refine ALK.nil ?_; try show WP _ _ _ _ _ _)
  ((repeat apply WP.seq); apply WP.block)
  refine WP.loop (fun n : Nat => ⟨[(5, .im (IV.int n)), (2, .im (IV.ptr (cSt a))), (3, .im (IV.ptr (cSt b)))], [], 0⟩) (fun n => n ≤ a.rd.length ∧ a.rd.take n = b.rd.take n) (fun n => a.rd.length - n) 0 ⟨Nat.zero_le _, rfl⟩ (Shift.sub [] rfl SubE.a SubH.nil) ?_
  rintro n ⟨hn, hf⟩
  ((repeat apply WP.seq); apply WP.lreg; refine nM rfl rfl ?_; (first | refine ALK.n (opn_field (o := 1) rfl (eB rfl)) rfl ?_ | refine ALK.n (opn_fieldOff (o := 1) rfl (eB rfl)) rfl ?_); (first | refine ALK.n (opn_load rfl (eB rfl) rfl) rfl ?_ | refine ALK.r OpR.ld rfl ?_); refine ALK.n OpN.ln rfl ?_; refine ALK.n OpN.cm rfl ?_; refine ALK.nil ?_; try show WP _ _ _ _ _ _)
  refine WP.len 43 rfl (fun hb => ?_)
  ((repeat apply WP.seq); refine WP.cond rfl (fun h => ?_) (fun h => ?_))
  · (refine WP.skip ?_; show WP _ _ _ _ _ _)
    have hlt : n < a.rd.length := by simpa using h
    have e1 : a.rd[n]? = some (a.rd.getD n []) := getD_of_lt [] hlt
    have e2 : b.rd[n]? = some (b.rd.getD n []) := getD_of_lt [] (by omega)
    ((repeat apply WP.seq); apply WP.block)
    ((repeat apply WP.seq); apply WP.ldraw; (first | refine ALK.n (opn_field (o := 1) rfl (eB rfl)) rfl ?_ | refine ALK.n (opn_fieldOff (o := 1) rfl (eB rfl)) rfl ?_); (first | refine ALK.n (opn_load rfl (eB rfl) rfl) rfl ?_ | refine ALK.r OpR.ld rfl ?_); refine nM rfl rfl ?_; refine ALK.n OpN.ix rfl ?_; (first | refine ALK.n (opn_load rfl (eB rfl) rfl) rfl ?_ | refine ALK.r OpR.ld rfl ?_); (first | refine ALK.n (opn_field (o := 1) rfl (eB rfl)) rfl ?_ | refine ALK.n (opn_fieldOff (o := 1) rfl (eB rfl)) rfl ?_); (first | refine ALK.n (opn_load rfl (eB rfl) rfl) rfl ?_ | refine ALK.r OpR.ld rfl ?_); refine nM rfl rfl ?_; refine ALK.n OpN.ix rfl ?_; (first | refine ALK.n (opn_load rfl (eB rfl) rfl) rfl ?_ | refine ALK.r OpR.ld rfl ?_); refine ALK.n (opn_call (SameBools_fn _ _) (Evs.cons Ev.a (Evs.cons Ev.a Evs.nil))) rfl ?_; refine ALK.n (opn_not (eB rfl)) rfl ?_; refine ALK.nilD (by kernel_rfl) ?_; try show WP _ _ _ _ _ _)
    ((repeat apply WP.seq); refine WP.cond rfl (fun h => ?_) (fun h => ?_))
    · ((repeat apply WP.seq); apply WP.lreg; refine nA rfl rfl ?_; refine ALK.nil ?_; try show WP _ _ _ _ _ _)
      have hr : decide (a = b) = false := decide_eq_false fun e => ne_at e1 e2 (by simpa using h) (by rw [e])
      ((repeat apply WP.seq); refine WP.ret ?_; first | exact RetOk.one Try.results33 ResV.a | exact RetOk.tup Try.results33 rfl ResVs.a)
    (refine WP.skip ?_; show WP _ _ _ _ _ _)
    ((repeat apply WP.seq); apply WP.lreg; refine nM rfl rfl ?_; refine ALK.n OpN.ar rfl ?_; refine nA rfl rfl ?_; refine ALK.nil ?_; try show WP _ _ _ _ _ _)
    show ∃ _, _ ∧ _ ∧ _
    exact ⟨n + 1, ⟨by omega, take_eq_next hf e1 e2 (by simpa using h)⟩, by omega, (Shift.sub [] rfl SubE.a SubH.nil)⟩
  ((repeat apply WP.seq); refine WP.exit ?_; show WP _ _ _ _ _ _)
  have w1 : a.rd = b.rd := take_eq_all hf (by simp at h; omega) (by omega)
  clear h hf hb
  ((repeat apply WP.seq); apply WP.lreg; refine nA rfl rfl ?_; refine ALK.nil ?_; try show WP _ _ _ _ _ _)
  ((repeat apply WP.seq); apply WP.block)
  refine WP.loop (fun n : Nat => ⟨[(6, .im (IV.int n)), (2, .im (IV.ptr (cSt a))), (3, .im (IV.ptr (cSt b)))], [], 0⟩) (fun n => n ≤ a.wr.length ∧ a.wr.take n = b.wr.take n) (fun n => a.wr.length - n) 0 ⟨Nat.zero_le _, rfl⟩ (Shift.sub [] rfl SubE.a SubH.nil) ?_
  rintro n ⟨hn, hf⟩
  ((repeat apply WP.seq); apply WP.lreg; refine nM rfl rfl ?_; (first | refine ALK.n (opn_field (o := 2) rfl (eB rfl)) rfl ?_ | refine ALK.n (opn_fieldOff (o := 2) rfl (eB rfl)) rfl ?_); (first | refine ALK.n (opn_load rfl (eB rfl) rfl) rfl ?_ | refine ALK.r OpR.ld rfl ?_); refine ALK.n OpN.ln rfl ?_; refine ALK.n OpN.cm rfl ?_; refine ALK.nil ?_; try show WP _ _ _ _ _ _)
  refine WP.len 62 rfl (fun hb => ?_)
  ((repeat apply WP.seq); refine WP.cond rfl (fun h => ?_) (fun h => ?_))
  · (refine WP.skip ?_; show WP _ _ _ _ _ _)
    have hlt : n < a.wr.length := by simpa using h
    have e1 : a.wr[n]? = some (a.wr.getD n []) := getD_of_lt [] hlt
    have e2 : b.wr[n]? = some (b.wr.getD n []) := getD_of_lt [] (by omega)
    ((repeat apply WP.seq); apply WP.block)
    ((repeat apply WP.seq); apply WP.ldraw; (first | refine ALK.n (opn_field (o := 2) rfl (eB rfl)) rfl ?_ | refine ALK.n (opn_fieldOff (o := 2) rfl (eB rfl)) rfl ?_); (first | refine ALK.n (opn_load rfl (eB rfl) rfl) rfl ?_ | refine ALK.r OpR.ld rfl ?_); refine nM rfl rfl ?_; refine ALK.n OpN.ix rfl ?_; (first | refine ALK.n (opn_load rfl (eB rfl) rfl) rfl ?_ | refine ALK.r OpR.ld rfl ?_); (first | refine ALK.n (opn_field (o := 2) rfl (eB rfl)) rfl ?_ | refine ALK.n (opn_fieldOff (o := 2) rfl (eB rfl)) rfl ?_); (first | refine ALK.n (opn_load rfl (eB rfl) rfl) rfl ?_ | refine ALK.r OpR.ld rfl ?_); refine nM rfl rfl ?_; refine ALK.n OpN.ix rfl ?_; (first | refine ALK.n (opn_load rfl (eB rfl) rfl) rfl ?_ | refine ALK.r OpR.ld rfl ?_); refine ALK.n (opn_call (SameBools_fn _ _) (Evs.cons Ev.a (Evs.cons Ev.a Evs.nil))) rfl ?_; refine ALK.n (opn_not (eB rfl)) rfl ?_; refine ALK.nilD (by kernel_rfl) ?_; try show WP _ _ _ _ _ _)
    ((repeat apply WP.seq); refine WP.cond rfl (fun h => ?_) (fun h => ?_))
    · ((repeat apply WP.seq); apply WP.lreg; refine nA rfl rfl ?_; refine ALK.nil ?_; try show WP _ _ _ _ _ _)
      have hr : decide (a = b) = false := decide_eq_false fun e => ne_at e1 e2 (by simpa using h) (by rw [e])
      ((repeat apply WP.seq); refine WP.ret ?_; first | exact RetOk.one Try.results33 ResV.a | exact RetOk.tup Try.results33 rfl ResVs.a)
    (refine WP.skip ?_; show WP _ _ _ _ _ _)
    ((repeat apply WP.seq); apply WP.lreg; refine nM rfl rfl ?_; refine ALK.n OpN.ar rfl ?_; refine nA rfl rfl ?_; refine ALK.nil ?_; try show WP _ _ _ _ _ _)
    show ∃ _, _ ∧ _ ∧ _
    exact ⟨n + 1, ⟨by omega, take_eq_next hf e1 e2 (by simpa using h)⟩, by omega, (Shift.sub [] rfl SubE.a SubH.nil)⟩
  ((repeat apply WP.seq); refine WP.exit ?_; show WP _ _ _ _ _ _)
  have w2 : a.wr = b.wr := take_eq_all hf (by simp at h; omega) (by omega)
  clear h hf hb
  ((repeat apply WP.seq); apply WP.lreg; refine nA rfl rfl ?_; refine ALK.nil ?_; try show WP _ _ _ _ _ _)
  ((repeat apply WP.seq); apply WP.block)
  refine WP.loop (fun n : Nat => ⟨[(7, .im (IV.int n)), (2, .im (IV.ptr (cSt a))), (3, .im (IV.ptr (cSt b)))], [], 0⟩) (fun n => n ≤ a.vals.length ∧ a.vals.take n = b.vals.take n) (fun n => a.vals.length - n) 0 ⟨Nat.zero_le _, rfl⟩ (Shift.sub [] rfl SubE.a SubH.nil) ?_
  rintro n ⟨hn, hf⟩
  ((repeat apply WP.seq); apply WP.lreg; refine nM rfl rfl ?_; (first | refine ALK.n (opn_field (o := 3) rfl (eB rfl)) rfl ?_ | refine ALK.n (opn_fieldOff (o := 3) rfl (eB rfl)) rfl ?_); (first | refine ALK.n (opn_load rfl (eB rfl) rfl) rfl ?_ | refine ALK.r OpR.ld rfl ?_); refine ALK.n OpN.ln rfl ?_; refine ALK.n OpN.cm rfl ?_; refine ALK.nil ?_; try show WP _ _ _ _ _ _)
  refine WP.len 81 rfl (fun hb => ?_)
  ((repeat apply WP.seq); refine WP.cond rfl (fun h => ?_) (fun h => ?_))
  · (refine WP.skip ?_; show WP _ _ _ _ _ _)
    have hlt : n < a.vals.length := by simpa using h
    have e1 : a.vals[n]? = some (a.vals.getD n []) := getD_of_lt [] hlt
    have e2 : b.vals[n]? = some (b.vals.getD n []) := getD_of_lt [] (by omega)
    ((repeat apply WP.seq); apply WP.block)
    ((repeat apply WP.seq); apply WP.ldraw; (first | refine ALK.n (opn_field (o := 3) rfl (eB rfl)) rfl ?_ | refine ALK.n (opn_fieldOff (o := 3) rfl (eB rfl)) rfl ?_); (first | refine ALK.n (opn_load rfl (eB rfl) rfl) rfl ?_ | refine ALK.r OpR.ld rfl ?_); refine nM rfl rfl ?_; refine ALK.n OpN.ix rfl ?_; (first | refine ALK.n (opn_load rfl (eB rfl) rfl) rfl ?_ | refine ALK.r OpR.ld rfl ?_); (first | refine ALK.n (opn_field (o := 3) rfl (eB rfl)) rfl ?_ | refine ALK.n (opn_fieldOff (o := 3) rfl (eB rfl)) rfl ?_); (first | refine ALK.n (opn_load rfl (eB rfl) rfl) rfl ?_ | refine ALK.r OpR.ld rfl ?_); refine nM rfl rfl ?_; refine ALK.n OpN.ix rfl ?_; (first | refine ALK.n (opn_load rfl (eB rfl) rfl) rfl ?_ | refine ALK.r OpR.ld rfl ?_); refine ALK.n (opn_call (SameInts_fn _ _) (Evs.cons Ev.a (Evs.cons Ev.a Evs.nil))) rfl ?_; refine ALK.n (opn_not (eB rfl)) rfl ?_; refine ALK.nilD (by kernel_rfl) ?_; try show WP _ _ _ _ _ _)
    ((repeat apply WP.seq); refine WP.cond rfl (fun h => ?_) (fun h => ?_))
    · ((repeat apply WP.seq); apply WP.lreg; refine nA rfl rfl ?_; refine ALK.nil ?_; try show WP _ _ _ _ _ _)
      have hr : decide (a = b) = false := decide_eq_false fun e => ne_at e1 e2 (by simpa using h) (by rw [e])
      ((repeat apply WP.seq); refine WP.ret ?_; first | exact RetOk.one Try.results33 ResV.a | exact RetOk.tup Try.results33 rfl ResVs.a)
    (refine WP.skip ?_; show WP _ _ _ _ _ _)
    ((repeat apply WP.seq); apply WP.lreg; refine nM rfl rfl ?_; refine ALK.n OpN.ar rfl ?_; refine nA rfl rfl ?_; refine ALK.nil ?_; try show WP _ _ _ _ _ _)
    show ∃ _, _ ∧ _ ∧ _
    exact ⟨n + 1, ⟨by omega, take_eq_next hf e1 e2 (by simpa using h)⟩, by omega, (Shift.sub [] rfl SubE.a SubH.nil)⟩
  ((repeat apply WP.seq); refine WP.exit ?_; show WP _ _ _ _ _ _)
  have w3 : a.vals = b.vals := take_eq_all hf (by simp at h; omega) (by omega)
  clear h hf hb
  ((repeat apply WP.seq); apply WP.lreg; refine nA rfl rfl ?_; refine ALK.nil ?_; try show WP _ _ _ _ _ _)
  have hr : decide (a = b) = true := decide_eq_true (st_eq.2 ⟨q0, w1, w2, w3⟩)
  ((repeat apply WP.seq); refine WP.ret ?_; first | exact RetOk.one Try.results33 ResV.a | exact RetOk.tup Try.results33 rfl ResVs.a)
end Go.Proofs.Ytjgmbgfcffnanab
