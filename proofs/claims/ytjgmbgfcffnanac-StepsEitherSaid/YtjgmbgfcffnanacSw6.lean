/- The law StepsEither. -/
import Derived.Test.YtjgmbgfcffnanacSw1
import Derived.Test.YtjgmbgfcffnanacSm
import Derived.Test.YtjgmbgfcffnanacSpD
namespace Go.Proofs.Ytjgmbgfcffnanac
open Go.RowKit

def chX (p : Plan) (s : StT) (pk : Int) : StepT := (canL p s).getD (chooseN pk (canL p s).length).toNat ⟨0, 0, 0⟩
def rch (p : Plan) : List Int → StT → StT
  | [], s => s
  | pk :: l, s => if canL p s = [] then s else rch p l (turnX p s (chX p s pk))
theorem chX_at {p : Plan} {s : StT} (pk : Int) (h : canL p s ≠ []) : (canL p s)[(chooseN pk (canL p s).length).toNat]? = some (chX p s pk) ∧ chX p s pk ∈ canL p s ∧ 0 ≤ chooseN pk (canL p s).length ∧ chooseN pk (canL p s).length < ((canL p s).length : Int) := by
  have hlen : 0 < (canL p s).length := List.length_pos_iff.2 h
  obtain ⟨h1, h2⟩ := chooseN_in (n := pk) (m := ((canL p s).length : Int)) (by omega)
  have hx := getD_of_lt (l := canL p s) ⟨0, 0, 0⟩ (show (chooseN pk (canL p s).length).toNat < _ by omega)
  exact ⟨hx, List.mem_of_getElem? hx, h1, h2⟩
theorem rch_reach {p : Plan} {s0 : List Int} : ∀ {l : List Int} {s : StT}, Reach p s0 s → Reach p s0 (rch p l s)
  | [], _, r => r
  | pk :: l, s, r => by
    unfold rch
    split
    · exact r
    · rename_i h
      exact rch_reach (r.turnX (chX_at pk h).2.1)
theorem rch_drop {p : Plan} {l : List Int} {i : Nat} {x : Int} {s : StT} (h : l[i]? = some x) : rch p (l.drop i) s = if canL p s = [] then s else rch p (l.drop (i + 1)) (turnX p s (chX p s x)) := by
  obtain ⟨h1, h2⟩ := List.getElem?_eq_some_iff.1 h
  rw [List.drop_eq_getElem_cons h1, h2]
  rfl
theorem doS_can {p : Plan} {s : StT} (v : Valid p s) {x : StepT} (h : x ∈ canL p s) : doS p s x = turnX p s x ∧ doE p s x = 0 := by
  have h0 := (doE_can v x).2 h
  exact ⟨by unfold doS; rw [if_pos h0], h0⟩
theorem mem_of_step {p : Plan} {s s' : StT} {x : StepT} (h : Step p s x.kind x.txn.toNat x.shard.toNat ∧ 0 ≤ x.txn ∧ x.txn < nT p ∧ 0 ≤ x.shard ∧ x.shard < mS p) (h2 : Step p s' x.kind x.txn.toNat x.shard.toNat) : x ∈ canL p s' := by
  obtain ⟨_, a1, a2, a3, a4⟩ := h
  obtain ⟨kind, tn, sh⟩ := x
  simp only at a1 a2 a3 a4 h2
  refine mem_canL.2 ⟨tn.toNat, sh.toNat, h2.kd, ?_, h2.hn, h2.hk, h2.may⟩
  rw [Int.toNat_of_nonneg a1, Int.toNat_of_nonneg a3]
def reachE (p : Plan) (st : List Int) : Bool := decide (beginE p st = 0)
def reachS (p : Plan) (st picks : List Int) : StT := if beginE p st = 0 then rch p (picks.take 64) (beginS p st) else st0
set_option maxRecDepth 100000 in
set_option maxHeartbeats 4000000 in
theorem reached_fn (p : Plan) (st picks : List Int) (hB : TxsB p.txns) (hpk : ∀ x ∈ picks, I64 x) : Fn (Cfg.mk Try.prog (ttAt ttl) ttl_ok.ok mixd) 15 [planV p, intsV st, intsV picks] (IV.tup [stV (reachS p st picks), IV.bool (reachE p st)]) := by
  refine Fn.of_wp _ Try.func15 rfl (by kernel_rfl) Try.ntmps15 rfl ?_
  intro F hD hG
  ((repeat apply WP.seq); apply WP.lreg; refine ALK.n (opn_box (eB rfl) Cs.a rfl) rfl ?_; refine ALK.a (opa_alloc rfl rfl) rfl ?_; refine nA rfl rfl ?_; refine ALK.nil ?_; try show WP _ _ _ _ _ _)
  ((repeat apply WP.seq); apply WP.lreg; (first | refine ALK.n (opn_load rfl (eB rfl) rfl) rfl ?_ | refine ALK.r OpR.ld rfl ?_); refine nM rfl rfl ?_; refine ALK.n (opn_call (Begin_fn p st hB) (Evs.cons Ev.a (Evs.cons Ev.a Evs.nil))) rfl ?_; refine nM rfl rfl ?_; refine nX rfl rfl rfl ?_; refine nX rfl rfl rfl ?_; refine ALK.a (opa_alloc rfl rfl) rfl ?_; (first | refine ALK.e (ope_store rfl (eB rfl) (eB rfl) Cs.a rfl rfl rfl) rfl rfl ?_ | refine ALK.e (ope_storeRow rfl rfl (eB rfl) (eB rfl) (oc_val rfl) rfl rfl (by assumption)) rfl rfl ?_); refine nA rfl rfl ?_; refine ALK.nil ?_; try show WP _ _ _ _ _ _)
  ((repeat apply WP.seq); apply WP.lreg; refine nM rfl rfl ?_; refine ALK.n OpN.cm rfl ?_; refine ALK.nil ?_; try show WP _ _ _ _ _ _)
  ((repeat apply WP.seq); refine WP.cond rfl (fun h => ?_) (fun h => ?_))
  · have h0 : ¬ beginE p st = 0 := by simpa using h
    have q1 : reachS p st picks = st0 := by unfold reachS; rw [if_neg h0]
    have q2 : reachE p st = false := by unfold reachE; simp [h0]
    rw [q1, q2]
    ((repeat apply WP.seq); apply WP.lreg; (first | refine ALK.n (opn_build rfl rfl rfl rfl Parts.nil) rfl ?_ | refine ALK.n (opn_buildA rfl rfl rfl rfl rfl Parts.nil) rfl ?_); (first | refine ALK.e (ope_store rfl (eB rfl) (eB rfl) Cs.a rfl rfl rfl) rfl rfl ?_ | refine ALK.e (ope_storeRow rfl rfl (eB rfl) (eB rfl) (oc_val rfl) rfl rfl (by assumption)) rfl rfl ?_); refine nA rfl rfl ?_; refine ALK.nil ?_; try show WP _ _ _ _ _ _)
    ((repeat apply WP.seq); refine WP.ret ?_; first | exact RetOk.one Try.results15 ResV.a | exact RetOk.tup Try.results15 rfl ResVs.a)
  (refine WP.skip ?_; show WP _ _ _ _ _ _)
  have h0 : beginE p st = 0 := by simpa using h
  have q1 : reachS p st picks = rch p (picks.take 64) (beginS p st) := by unfold reachS; rw [if_pos h0]
  have q2 : reachE p st = true := by unfold reachE; simp [h0]
  have q3 : begS p st = beginS p st := by unfold begS; rw [if_pos h0]
  have hlen : (picks.take 64).length = min 64 picks.length := List.length_take
  clear h
  rw [q1, q2, q3]
  ((repeat apply WP.seq); apply WP.lreg; refine nA rfl rfl ?_; refine ALK.nil ?_; try show WP _ _ _ _ _ _)
  ((repeat apply WP.seq); apply WP.block)
  refine WP.loop (fun c : StT × Nat => ⟨[(10, .im (IV.int c.2)), (2, .im (intsV picks)), (3, .im (IV.ptr (cP p))), (6, .off 0 0), (8, .off 1 0)], [(0, .blk 29 [.im (IV.val (.slice none 0 0)), .im (IV.val (.slice none 0 0)), .im (IV.val (.slice none 0 0)), .im (IV.val (.slice none 0 0))]), (1, .blk 29 [.im (intsV c.1.store), .im (bbV c.1.rd), .im (bbV c.1.wr), .im (iiV c.1.vals)])], 2⟩) (fun c => Reach p st c.1 ∧ rch p ((picks.take 64).drop c.2) c.1 = rch p (picks.take 64) (beginS p st) ∧ c.2 ≤ (picks.take 64).length) (fun c => (picks.take 64).length - c.2) (beginS p st, 0) ⟨Reach.begin h0, rfl, Nat.zero_le _⟩ (Shift.sub [(0, 0), (1, 1)] rfl SubE.a (SubH.cons rfl rfl (ObLe.blk SLes.a) (SubH.cons rfl rfl (ObLe.blk SLes.a) SubH.nil))) ?_
  rintro ⟨s, n⟩ ⟨r, he, hn⟩
  simp only at r he hn
  have v := r.v
  have hv0 := valid_iff.2 v
  ((repeat apply WP.seq); apply WP.lreg; refine nM rfl rfl ?_; refine nM rfl rfl ?_; refine ALK.n OpN.ln rfl ?_; refine ALK.n OpN.cm rfl ?_; refine nM rfl rfl ?_; refine gM rfl rfl rfl rfl ?_; (first | refine ALK.g (fun hb => opn_cmp (eC rfl hb) (eB rfl) rfl) rfl rfl rfl ?_ | refine ALK.g (fun hb => opn_cmpB rfl (eC rfl hb) (eB rfl) rfl) rfl rfl rfl ?_); refine ALK.n (opn_pick_and (eB rfl) rfl (fun hb2 => by first | exact hb2 | (rw [hb, hb2]; rfl) | simp_all [gd]) rfl) rfl ?_; refine ALK.nil ?_; try show WP _ _ _ _ _ _)
  ((repeat apply WP.seq); refine WP.cond rfl (fun h => ?_) (fun h => ?_))
  · (refine WP.skip ?_; show WP _ _ _ _ _ _)
    have h2 : n < picks.length ∧ n < 64 := by simp at h; omega
    obtain ⟨hnl, hn64⟩ := h2
    clear h
    obtain ⟨pk, hpkn⟩ := get_at hnl
    have hpi := hpk pk (List.mem_of_getElem? hpkn)
    have htk : (picks.take 64)[n]? = some pk := by rw [List.getElem?_take_of_lt hn64]; exact hpkn
    have hcan : canE p s = canL p s := by unfold canE; rw [if_pos hv0]
    rw [rch_drop htk] at he
    ((repeat apply WP.seq); apply WP.block)
    ((repeat apply WP.seq); apply WP.lreg; (first | refine ALK.n (opn_load rfl (eB rfl) rfl) rfl ?_ | refine ALK.r OpR.ld rfl ?_); (first | refine ALK.n (opn_load rfl (eB rfl) rfl) rfl ?_ | refine ALK.r OpR.ld rfl ?_); refine ALK.n (opn_call (Can_fn p s hB) (Evs.cons Ev.a (Evs.cons Ev.a Evs.nil))) rfl ?_; refine nM rfl rfl ?_; refine nX rfl rfl rfl ?_; refine nX rfl rfl rfl ?_; refine nA rfl rfl ?_; refine nA rfl rfl ?_; refine ALK.nil ?_; try show WP _ _ _ _ _ _)
    rw [hv0, hcan]
    ((repeat apply WP.seq); apply WP.lreg; refine nM rfl rfl ?_; refine ALK.n OpN.cm rfl ?_; refine nM rfl rfl ?_; refine gM rfl rfl rfl rfl ?_; (first | refine ALK.g (fun hb => opn_len rfl (eC rfl hb)) rfl rfl rfl ?_ | refine ALK.g (fun hb => opn_lenRow rfl (eC rfl hb)) rfl rfl rfl ?_ | refine ALK.g (fun hb => opn_lenNil rfl (eC rfl hb)) rfl rfl rfl ?_); (first | refine ALK.g (fun hb => opn_cmp (eC rfl hb) (eB rfl) rfl) rfl rfl rfl ?_ | refine ALK.g (fun hb => opn_cmpB rfl (eC rfl hb) (eB rfl) rfl) rfl rfl rfl ?_); refine ALK.n (opn_pick_or (eB rfl) rfl rfl (fun hb2 => by first | (rw [hb2]; rfl) | (rw [hb, hb2]; rfl) | simp_all [gd])) rfl ?_; refine ALK.nil ?_; try show WP _ _ _ _ _ _)
    ((repeat apply WP.seq); refine WP.cond rfl (fun h => ?_) (fun h => ?_))
    · have hc : canL p s = [] := by simpa using h
      rw [if_pos hc] at he
      rw [← he]
      ((repeat apply WP.seq); apply WP.lreg; (first | refine ALK.n (opn_load rfl (eB rfl) rfl) rfl ?_ | refine ALK.r OpR.ld rfl ?_); refine nM rfl rfl ?_; refine ALK.n OpN.cm rfl ?_; (first | refine ALK.e (ope_store rfl (eB rfl) (eB rfl) Cs.a rfl rfl rfl) rfl rfl ?_ | refine ALK.e (ope_storeRow rfl rfl (eB rfl) (eB rfl) (oc_val rfl) rfl rfl (by assumption)) rfl rfl ?_); refine nA rfl rfl ?_; refine ALK.nil ?_; try show WP _ _ _ _ _ _)
      ((repeat apply WP.seq); refine WP.ret ?_; first | exact RetOk.one Try.results15 ResV.a | exact RetOk.tup Try.results15 rfl ResVs.a)
    (refine WP.skip ?_; show WP _ _ _ _ _ _)
    have hc : canL p s ≠ [] := by simpa using h
    clear h
    rw [if_neg hc] at he
    obtain ⟨hx, hxm, hi0, hi1⟩ := chX_at pk hc
    obtain ⟨hd1, hd2⟩ := doS_can v hxm
    have hpos : (0 : Int) < (canL p s).length := by omega
    obtain ⟨i, hi⟩ : ∃ i, i = chooseN pk (canL p s).length := ⟨_, rfl⟩
    rw [← hi] at hx hi0 hi1
    ((repeat apply WP.seq); apply WP.ldraw; (first | refine ALK.n (opn_load rfl (eB rfl) rfl) rfl ?_ | refine ALK.r OpR.ld rfl ?_); (first | refine ALK.n (opn_load rfl (eB rfl) rfl) rfl ?_ | refine ALK.r OpR.ld rfl ?_); refine nM rfl rfl ?_; refine nM rfl rfl ?_; refine nM rfl rfl ?_; refine ALK.n OpN.ix rfl ?_; (first | refine ALK.n (opn_load rfl (eB rfl) rfl) rfl ?_ | refine ALK.r OpR.ld rfl ?_); refine nM rfl rfl ?_; refine ALK.n OpN.ln rfl ?_; refine ALK.n (opn_call (choose_fn pk (canL p s).length hpi hpos) (Evs.cons Ev.a (Evs.cons Ev.a Evs.nil))) rfl ?_; refine ALK.n (opn_index (i := i) rfl (eB rfl) (Ev.of (eB rfl) (ImOf.im (ILe.int hi.symm))) hi0 hx) rfl ?_; (first | refine ALK.n (opn_load rfl (eB rfl) rfl) rfl ?_ | refine ALK.r OpR.ld rfl ?_); refine ALK.n (opn_call (Do_fn p s (chX p s pk) hB) (Evs.cons Ev.a (Evs.cons Ev.a (Evs.cons Ev.a Evs.nil)))) rfl ?_; refine nM rfl rfl ?_; refine nX rfl rfl rfl ?_; refine nX rfl rfl rfl ?_; refine ALK.a (opa_alloc rfl rfl) rfl ?_; (first | refine ALK.e (ope_store rfl (eB rfl) (eB rfl) Cs.a rfl rfl rfl) rfl rfl ?_ | refine ALK.e (ope_storeRow rfl rfl (eB rfl) (eB rfl) (oc_val rfl) rfl rfl (by assumption)) rfl rfl ?_); refine nA rfl rfl ?_; refine ALK.nilD (by kernel_rfl) ?_; try show WP _ _ _ _ _ _)
    ((repeat apply WP.seq); apply WP.lreg; refine nM rfl rfl ?_; refine ALK.n OpN.cm rfl ?_; refine ALK.nil ?_; try show WP _ _ _ _ _ _)
    ((repeat apply WP.seq); refine WP.cond rfl (fun h => ?_) (fun h => ?_))
    · rw [hd2] at h
      simp at h
    (refine WP.skip ?_; show WP _ _ _ _ _ _)
    ((repeat apply WP.seq); apply WP.lreg; (first | refine ALK.n (opn_load rfl (eB rfl) rfl) rfl ?_ | refine ALK.r OpR.ld rfl ?_); (first | refine ALK.e (ope_store rfl (eB rfl) (eB rfl) Cs.a rfl rfl rfl) rfl rfl ?_ | refine ALK.e (ope_storeRow rfl rfl (eB rfl) (eB rfl) (oc_val rfl) rfl rfl (by assumption)) rfl rfl ?_); refine ALK.nil ?_; try show WP _ _ _ _ _ _)
    ((repeat apply WP.seq); apply WP.lreg; refine nM rfl rfl ?_; refine ALK.n OpN.ar rfl ?_; refine nA rfl rfl ?_; refine ALK.nil ?_; try show WP _ _ _ _ _ _)
    show ∃ _, _ ∧ _ ∧ _
    rw [hd1]
    exact ⟨(turnX p s (chX p s pk), n + 1), ⟨r.turnX hxm, he, by simp only; omega⟩, by simp only; omega, Shift.sub [(0, 0), (1, 1)] rfl SubE.a (SubH.cons rfl rfl (ObLe.blk SLes.a) (SubH.cons rfl rfl (ObLe.blk SLes.a) SubH.nil))⟩
  · ((repeat apply WP.seq); refine WP.exit ?_; show WP _ _ _ _ _ _)
    have hn2 : n = (picks.take 64).length := by
      simp at h
      by_cases hnl : n < picks.length
      · have := h hnl; omega
      · omega
    have hz : rch p ((picks.take 64).drop n) s = s := by rw [hn2, List.drop_length]; rfl
    rw [hz] at he
    rw [← he]
    ((repeat apply WP.seq); apply WP.lreg; (first | refine ALK.n (opn_load rfl (eB rfl) rfl) rfl ?_ | refine ALK.r OpR.ld rfl ?_); (first | refine ALK.e (ope_store rfl (eB rfl) (eB rfl) Cs.a rfl rfl rfl) rfl rfl ?_ | refine ALK.e (ope_storeRow rfl rfl (eB rfl) (eB rfl) (oc_val rfl) rfl rfl (by assumption)) rfl rfl ?_); refine nA rfl rfl ?_; refine ALK.nil ?_; try show WP _ _ _ _ _ _)
    ((repeat apply WP.seq); refine WP.ret ?_; first | exact RetOk.one Try.results15 ResV.a | exact RetOk.tup Try.results15 rfl ResVs.a)
theorem begin_no {p : Plan} {st : List Int} (h : ¬ beginE p st = 0) : ¬ checkPlan p = 0 ∨ ¬ st.length = 8 := by
  by_cases hp : checkPlan p = 0
  · right
    intro h8
    exact h (by unfold beginE; rw [if_pos hp, if_pos h8])
  · exact .inl hp
set_option maxRecDepth 100000 in
set_option maxHeartbeats 4000000 in
theorem StepsEither_fn (p : Plan) (st picks : List Int) (a b : Int) (hB : TxsB p.txns) (hpk : ∀ x ∈ picks, I64 x) (ha : I64 a) (hb8 : I64 b) : Fn (Cfg.mk Try.prog (ttAt ttl) ttl_ok.ok mixd) 3 [planV p, intsV st, intsV picks, IV.int a, IV.int b] (IV.bool true) := by
  refine Fn.of_wp _ Try.func3 rfl (by kernel_rfl) Try.ntmps3 rfl ?_
  intro F hD hG
  ((repeat apply WP.seq); apply WP.lreg; refine ALK.n (opn_box (eB rfl) Cs.a rfl) rfl ?_; refine nA rfl rfl ?_; refine ALK.nil ?_; try show WP _ _ _ _ _ _)
  ((repeat apply WP.seq); apply WP.lreg; (first | refine ALK.n (opn_load rfl (eB rfl) rfl) rfl ?_ | refine ALK.r OpR.ld rfl ?_); refine nM rfl rfl ?_; refine nM rfl rfl ?_; refine ALK.n (opn_call (reached_fn p st picks hB hpk) (Evs.cons Ev.a (Evs.cons Ev.a (Evs.cons Ev.a Evs.nil)))) rfl ?_; refine nM rfl rfl ?_; refine nX rfl rfl rfl ?_; refine nX rfl rfl rfl ?_; refine ALK.a (opa_alloc rfl rfl) rfl ?_; (first | refine ALK.e (ope_store rfl (eB rfl) (eB rfl) Cs.a rfl rfl rfl) rfl rfl ?_ | refine ALK.e (ope_storeRow rfl rfl (eB rfl) (eB rfl) (oc_val rfl) rfl rfl (by assumption)) rfl rfl ?_); refine nA rfl rfl ?_; refine ALK.nil ?_; try show WP _ _ _ _ _ _)
  ((repeat apply WP.seq); apply WP.lreg; refine nM rfl rfl ?_; refine ALK.n (opn_not (eB rfl)) rfl ?_; refine ALK.nil ?_; try show WP _ _ _ _ _ _)
  ((repeat apply WP.seq); refine WP.cond rfl (fun h => ?_) (fun h => ?_))
  · have h0 : ¬ beginE p st = 0 := by simpa [reachE] using h
    ((repeat apply WP.seq); apply WP.lreg; refine ALK.n (opn_call stepsBegun_fn Evs.nil) rfl ?_; refine nM rfl rfl ?_; (first | refine ALK.g (fun hb => opn_load rfl (eB rfl) rfl) rfl rfl rfl ?_ | refine ALK.rg (fun hb => opr_load rfl (eB rfl) rfl rfl) rfl rfl rfl ?_ | refine ALK.rg (fun hb => opr_loadRow rfl rfl (eB rfl) rfl (by assumption) rfl) rfl rfl rfl ?_ | refine ALK.rg (fun hb => opr_loadK0 rfl (eB rfl) rfl (by assumption) rfl) rfl rfl rfl ?_ | refine ALK.rg (fun hb => opr_loadK rfl (eB rfl) rfl (by assumption) rfl) rfl rfl rfl ?_); refine ALK.g (fun hb => opn_call (ref_CheckPlan_fn p hB) (Evs.cons Ev.a Evs.nil)) rfl rfl rfl ?_; (first | refine ALK.g (fun hb => opn_cmp (eC rfl hb) (eB rfl) rfl) rfl rfl rfl ?_ | refine ALK.g (fun hb => opn_cmpB rfl (eC rfl hb) (eB rfl) rfl) rfl rfl rfl ?_); refine ALK.g (fun hb => opn_move (eC rfl hb)) rfl rfl rfl ?_; refine ALK.g2 (fun hb => opn_move (eB rfl)) rfl rfl rfl ?_; refine ALK.g2 (fun hb => opn_call (IsStore_fn st) (Evs.cons Ev.a Evs.nil)) rfl rfl rfl ?_; refine ALK.g2 (fun hb => opn_not (eC rfl hb)) rfl rfl rfl ?_; refine ALK.g (fun hb => opn_pick_or (eC rfl hb) rfl rfl (fun hb2 => by first | (rw [hb2]; rfl) | (rw [hb, hb2]; rfl) | simp_all [gd])) rfl rfl rfl ?_; refine ALK.n (opn_pick_and (eB rfl) rfl (fun hb2 => by first | exact hb2 | (rw [hb, hb2]; rfl) | simp_all [gd]) rfl) rfl ?_; refine nA rfl rfl ?_; refine ALK.nil ?_; try show WP _ _ _ _ _ _)
    refine WP.ret ?_
    refine RetOk.one Try.results3 (ResV.tmp rfl (ImOf.im (ILe.bool ?_)))
    rcases begin_no h0 with h1 | h1 <;> simp [h1]
  (refine WP.skip ?_; show WP _ _ _ _ _ _)
  have h0 : beginE p st = 0 := by simpa [reachE] using h
  have hrs : reachS p st picks = rch p (picks.take 64) (beginS p st) := by unfold reachS; rw [if_pos h0]
  have r : Reach p st (reachS p st picks) := by rw [hrs]; exact rch_reach (Reach.begin h0)
  clear h hrs
  generalize reachS p st picks = s at r
  have v := r.v
  have hv0 := valid_iff.2 v
  have hcan : canE p s = canL p s := by unfold canE; rw [if_pos hv0]
  ((repeat apply WP.seq); apply WP.lreg; (first | refine ALK.n (opn_load rfl (eB rfl) rfl) rfl ?_ | refine ALK.r OpR.ld rfl ?_); (first | refine ALK.n (opn_load rfl (eB rfl) rfl) rfl ?_ | refine ALK.r OpR.ld rfl ?_); refine ALK.n (opn_call (Can_fn p s hB) (Evs.cons Ev.a (Evs.cons Ev.a Evs.nil))) rfl ?_; refine nM rfl rfl ?_; refine nX rfl rfl rfl ?_; refine nX rfl rfl rfl ?_; refine nA rfl rfl ?_; refine nA rfl rfl ?_; refine ALK.nil ?_; try show WP _ _ _ _ _ _)
  rw [hv0, hcan]
  ((repeat apply WP.seq); apply WP.lreg; refine nM rfl rfl ?_; refine ALK.n OpN.cm rfl ?_; refine nM rfl rfl ?_; refine gM rfl rfl rfl rfl ?_; (first | refine ALK.g (fun hb => opn_len rfl (eC rfl hb)) rfl rfl rfl ?_ | refine ALK.g (fun hb => opn_lenRow rfl (eC rfl hb)) rfl rfl rfl ?_ | refine ALK.g (fun hb => opn_lenNil rfl (eC rfl hb)) rfl rfl rfl ?_); (first | refine ALK.g (fun hb => opn_cmp (eC rfl hb) (eB rfl) rfl) rfl rfl rfl ?_ | refine ALK.g (fun hb => opn_cmpB rfl (eC rfl hb) (eB rfl) rfl) rfl rfl rfl ?_); refine ALK.n (opn_pick_or (eB rfl) rfl rfl (fun hb2 => by first | (rw [hb2]; rfl) | (rw [hb, hb2]; rfl) | simp_all [gd])) rfl ?_; refine ALK.nil ?_; try show WP _ _ _ _ _ _)
  ((repeat apply WP.seq); refine WP.cond rfl (fun h => ?_) (fun h => ?_))
  · ((repeat apply WP.seq); apply WP.lreg; refine ALK.n (opn_call stepsBegun_fn Evs.nil) rfl ?_; refine nM rfl rfl ?_; refine gM rfl rfl rfl rfl ?_; (first | refine ALK.g (fun hb => opn_cmp (eC rfl hb) (eB rfl) rfl) rfl rfl rfl ?_ | refine ALK.g (fun hb => opn_cmpB rfl (eC rfl hb) (eB rfl) rfl) rfl rfl rfl ?_); refine ALK.n (opn_pick_and (eB rfl) rfl (fun hb2 => by first | exact hb2 | (rw [hb, hb2]; rfl) | simp_all [gd]) rfl) rfl ?_; refine nA rfl rfl ?_; refine ALK.nil ?_; try show WP _ _ _ _ _ _)
    refine WP.ret ?_
    refine RetOk.one Try.results3 (ResV.tmp rfl (ImOf.im (ILe.bool ?_)))
    simp
  (refine WP.skip ?_; show WP _ _ _ _ _ _)
  have hl2 : 2 ≤ (canL p s).length := by simp at h; omega
  have hc : canL p s ≠ [] := fun e => by rw [e] at hl2; simp at hl2
  have hpos : (0 : Int) < (canL p s).length := by omega
  clear h
  obtain ⟨hx, hxm, hi0, hi1⟩ := chX_at a hc
  obtain ⟨hy, hym, hj0, hj1⟩ := chX_at b hc
  obtain ⟨i, hi⟩ : ∃ i, i = chooseN a (canL p s).length := ⟨_, rfl⟩
  obtain ⟨j, hj⟩ : ∃ j, j = chooseN b (canL p s).length := ⟨_, rfl⟩
  rw [← hi] at hx hi0 hi1
  rw [← hj] at hy hj0 hj1
  ((repeat apply WP.seq); apply WP.ldraw; refine nM rfl rfl ?_; refine nM rfl rfl ?_; refine nM rfl rfl ?_; refine ALK.n OpN.ln rfl ?_; refine ALK.n (opn_call (choose_fn a (canL p s).length ha hpos) (Evs.cons Ev.a (Evs.cons Ev.a Evs.nil))) rfl ?_; refine ALK.n (opn_index (i := i) rfl (eB rfl) (Ev.of (eB rfl) (ImOf.im (ILe.int hi.symm))) hi0 hx) rfl ?_; (first | refine ALK.n (opn_load rfl (eB rfl) rfl) rfl ?_ | refine ALK.r OpR.ld rfl ?_); refine nM rfl rfl ?_; refine nM rfl rfl ?_; refine nM rfl rfl ?_; refine ALK.n OpN.ln rfl ?_; refine ALK.n (opn_call (choose_fn b (canL p s).length hb8 hpos) (Evs.cons Ev.a (Evs.cons Ev.a Evs.nil))) rfl ?_; refine ALK.n (opn_index (i := j) rfl (eB rfl) (Ev.of (eB rfl) (ImOf.im (ILe.int hj.symm))) hj0 hy) rfl ?_; (first | refine ALK.n (opn_load rfl (eB rfl) rfl) rfl ?_ | refine ALK.r OpR.ld rfl ?_); refine ALK.a (opa_alloc rfl rfl) rfl ?_; refine ALK.a (opa_alloc rfl rfl) rfl ?_; (first | refine ALK.e (ope_store rfl (eB rfl) (eB rfl) Cs.a rfl rfl rfl) rfl rfl ?_ | refine ALK.e (ope_storeRow rfl rfl (eB rfl) (eB rfl) (oc_val rfl) rfl rfl (by assumption)) rfl rfl ?_); (first | refine ALK.e (ope_store rfl (eB rfl) (eB rfl) Cs.a rfl rfl rfl) rfl rfl ?_ | refine ALK.e (ope_storeRow rfl rfl (eB rfl) (eB rfl) (oc_val rfl) rfl rfl (by assumption)) rfl rfl ?_); refine ALK.nilD (by kernel_rfl) ?_; try show WP _ _ _ _ _ _)
  clear hx hy hi hj
  generalize chX p s a = x at hxm
  generalize chX p s b = y at hym
  ((repeat apply WP.seq); apply WP.lreg; (first | refine ALK.n (opn_load rfl (eB rfl) rfl) rfl ?_ | refine ALK.r OpR.ld rfl ?_); (first | refine ALK.n (opn_load rfl (eB rfl) rfl) rfl ?_ | refine ALK.r OpR.ld rfl ?_); refine ALK.n (opn_eqS (us := tVals x) (vs := tVals y) (by first | exact Ev.base rfl | exact Ev.cnd rfl (by assumption) | exact Ev.of (eB rfl) (ImOf.agg rfl ILes.refl) | exact Ev.of (Ev.cnd rfl (by assumption)) (ImOf.agg rfl ILes.refl) | exact Ev.of (eB rfl) (ImOf.im (ILe.nil rfl))) (by first | exact Ev.base rfl | exact Ev.cnd rfl (by assumption) | exact Ev.of (eB rfl) (ImOf.agg rfl ILes.refl) | exact Ev.of (Ev.cnd rfl (by assumption)) (ImOf.agg rfl ILes.refl) | exact Ev.of (eB rfl) (ImOf.im (ILe.nil rfl))) (eq_stp _ _ x y)) rfl ?_; refine ALK.nil ?_; try show WP _ _ _ _ _ _)
  ((repeat apply WP.seq); refine WP.cond rfl (fun h => ?_) (fun h => ?_))
  · ((repeat apply WP.seq); apply WP.lreg; refine ALK.n (opn_call stepsBegun_fn Evs.nil) rfl ?_; refine nA rfl rfl ?_; refine ALK.nil ?_; try show WP _ _ _ _ _ _)
    ((repeat apply WP.seq); refine WP.ret ?_; first | exact RetOk.one Try.results3 ResV.a | exact RetOk.tup Try.results3 rfl ResVs.a)
  (refine WP.skip ?_; show WP _ _ _ _ _ _)
  have hne : x ≠ y := by simpa using h
  clear h
  obtain ⟨d1, d2⟩ := doS_can v hxm
  obtain ⟨d3, d4⟩ := doS_can v hym
  have sx := (Step.of_mem hxm).1
  have sy := (Step.of_mem hym).1
  have hno := mem_can_inj hxm hym hne
  have hno2 := mem_can_inj hym hxm (Ne.symm hne)
  have vx : Valid p (turnX p s x) := v.turn sx
  have vy : Valid p (turnX p s y) := v.turn sy
  have hyx : y ∈ canL p (turnX p s x) := mem_of_step (Step.of_mem hym) (Step.next v sx sy hno)
  have hxy : x ∈ canL p (turnX p s y) := mem_of_step (Step.of_mem hxm) (Step.next v sy sx hno2)
  obtain ⟨d5, d6⟩ := doS_can vx hyx
  obtain ⟨d7, d8⟩ := doS_can vy hxy
  have hcm : turnX p (turnX p s x) y = turnX p (turnX p s y) x := comm v r.ord sx sy hno
  ((repeat apply WP.seq); apply WP.lreg; (first | refine ALK.n (opn_load rfl (eB rfl) rfl) rfl ?_ | refine ALK.r OpR.ld rfl ?_); (first | refine ALK.n (opn_load rfl (eB rfl) rfl) rfl ?_ | refine ALK.r OpR.ld rfl ?_); (first | refine ALK.n (opn_load rfl (eB rfl) rfl) rfl ?_ | refine ALK.r OpR.ld rfl ?_); refine ALK.n (opn_call (Do_fn p s x hB) (Evs.cons Ev.a (Evs.cons Ev.a (Evs.cons Ev.a Evs.nil)))) rfl ?_; refine nM rfl rfl ?_; refine nX rfl rfl rfl ?_; refine nX rfl rfl rfl ?_; refine ALK.a (opa_alloc rfl rfl) rfl ?_; (first | refine ALK.e (ope_store rfl (eB rfl) (eB rfl) Cs.a rfl rfl rfl) rfl rfl ?_ | refine ALK.e (ope_storeRow rfl rfl (eB rfl) (eB rfl) (oc_val rfl) rfl rfl (by assumption)) rfl rfl ?_); refine nA rfl rfl ?_; refine ALK.nil ?_; try show WP _ _ _ _ _ _)
  ((repeat apply WP.seq); apply WP.lreg; (first | refine ALK.n (opn_load rfl (eB rfl) rfl) rfl ?_ | refine ALK.r OpR.ld rfl ?_); (first | refine ALK.n (opn_load rfl (eB rfl) rfl) rfl ?_ | refine ALK.r OpR.ld rfl ?_); (first | refine ALK.n (opn_load rfl (eB rfl) rfl) rfl ?_ | refine ALK.r OpR.ld rfl ?_); refine ALK.n (opn_call (Do_fn p s y hB) (Evs.cons Ev.a (Evs.cons Ev.a (Evs.cons Ev.a Evs.nil)))) rfl ?_; refine nM rfl rfl ?_; refine nX rfl rfl rfl ?_; refine nX rfl rfl rfl ?_; refine ALK.a (opa_alloc rfl rfl) rfl ?_; (first | refine ALK.e (ope_store rfl (eB rfl) (eB rfl) Cs.a rfl rfl rfl) rfl rfl ?_ | refine ALK.e (ope_storeRow rfl rfl (eB rfl) (eB rfl) (oc_val rfl) rfl rfl (by assumption)) rfl rfl ?_); refine nA rfl rfl ?_; refine ALK.nil ?_; try show WP _ _ _ _ _ _)
  rw [d1, d2, d3, d4]
  ((repeat apply WP.seq); apply WP.lreg; (first | refine ALK.n (opn_load rfl (eB rfl) rfl) rfl ?_ | refine ALK.r OpR.ld rfl ?_); (first | refine ALK.n (opn_load rfl (eB rfl) rfl) rfl ?_ | refine ALK.r OpR.ld rfl ?_); (first | refine ALK.n (opn_load rfl (eB rfl) rfl) rfl ?_ | refine ALK.r OpR.ld rfl ?_); refine ALK.n (opn_call (Do_fn p (turnX p s x) y hB) (Evs.cons Ev.a (Evs.cons Ev.a (Evs.cons Ev.a Evs.nil)))) rfl ?_; refine nM rfl rfl ?_; refine nX rfl rfl rfl ?_; refine nX rfl rfl rfl ?_; refine ALK.a (opa_alloc rfl rfl) rfl ?_; (first | refine ALK.e (ope_store rfl (eB rfl) (eB rfl) Cs.a rfl rfl rfl) rfl rfl ?_ | refine ALK.e (ope_storeRow rfl rfl (eB rfl) (eB rfl) (oc_val rfl) rfl rfl (by assumption)) rfl rfl ?_); refine nA rfl rfl ?_; refine ALK.nil ?_; try show WP _ _ _ _ _ _)
  ((repeat apply WP.seq); apply WP.lreg; (first | refine ALK.n (opn_load rfl (eB rfl) rfl) rfl ?_ | refine ALK.r OpR.ld rfl ?_); (first | refine ALK.n (opn_load rfl (eB rfl) rfl) rfl ?_ | refine ALK.r OpR.ld rfl ?_); (first | refine ALK.n (opn_load rfl (eB rfl) rfl) rfl ?_ | refine ALK.r OpR.ld rfl ?_); refine ALK.n (opn_call (Do_fn p (turnX p s y) x hB) (Evs.cons Ev.a (Evs.cons Ev.a (Evs.cons Ev.a Evs.nil)))) rfl ?_; refine nM rfl rfl ?_; refine nX rfl rfl rfl ?_; refine nX rfl rfl rfl ?_; refine ALK.a (opa_alloc rfl rfl) rfl ?_; (first | refine ALK.e (ope_store rfl (eB rfl) (eB rfl) Cs.a rfl rfl rfl) rfl rfl ?_ | refine ALK.e (ope_storeRow rfl rfl (eB rfl) (eB rfl) (oc_val rfl) rfl rfl (by assumption)) rfl rfl ?_); refine nA rfl rfl ?_; refine ALK.nil ?_; try show WP _ _ _ _ _ _)
  ((repeat apply WP.seq); apply WP.lreg; refine ALK.n (opn_call stepsBegun_fn Evs.nil) rfl ?_; refine nM rfl rfl ?_; refine gM rfl rfl rfl rfl ?_; (first | refine ALK.g (fun hb => opn_cmp (eC rfl hb) (eB rfl) rfl) rfl rfl rfl ?_ | refine ALK.g (fun hb => opn_cmpB rfl (eC rfl hb) (eB rfl) rfl) rfl rfl rfl ?_); refine ALK.n (opn_pick_and (eB rfl) rfl (fun hb2 => by first | exact hb2 | (rw [hb, hb2]; rfl) | simp_all [gd]) rfl) rfl ?_; refine nM rfl rfl ?_; refine gM rfl rfl rfl rfl ?_; (first | refine ALK.g (fun hb => opn_cmp (eC rfl hb) (eB rfl) rfl) rfl rfl rfl ?_ | refine ALK.g (fun hb => opn_cmpB rfl (eC rfl hb) (eB rfl) rfl) rfl rfl rfl ?_); refine ALK.n (opn_pick_and (eB rfl) rfl (fun hb2 => by first | exact hb2 | (rw [hb, hb2]; rfl) | simp_all [gd]) rfl) rfl ?_; refine nM rfl rfl ?_; refine gM rfl rfl rfl rfl ?_; (first | refine ALK.g (fun hb => opn_cmp (eC rfl hb) (eB rfl) rfl) rfl rfl rfl ?_ | refine ALK.g (fun hb => opn_cmpB rfl (eC rfl hb) (eB rfl) rfl) rfl rfl rfl ?_); refine ALK.n (opn_pick_and (eB rfl) rfl (fun hb2 => by first | exact hb2 | (rw [hb, hb2]; rfl) | simp_all [gd]) rfl) rfl ?_; refine nM rfl rfl ?_; refine gM rfl rfl rfl rfl ?_; (first | refine ALK.g (fun hb => opn_cmp (eC rfl hb) (eB rfl) rfl) rfl rfl rfl ?_ | refine ALK.g (fun hb => opn_cmpB rfl (eC rfl hb) (eB rfl) rfl) rfl rfl rfl ?_); refine ALK.n (opn_pick_and (eB rfl) rfl (fun hb2 => by first | exact hb2 | (rw [hb, hb2]; rfl) | simp_all [gd]) rfl) rfl ?_; refine nM rfl rfl ?_; (first | refine ALK.g (fun hb => opn_load rfl (eB rfl) rfl) rfl rfl rfl ?_ | refine ALK.rg (fun hb => opr_load rfl (eB rfl) rfl rfl) rfl rfl rfl ?_ | refine ALK.rg (fun hb => opr_loadRow rfl rfl (eB rfl) rfl (by assumption) rfl) rfl rfl rfl ?_ | refine ALK.rg (fun hb => opr_loadK0 rfl (eB rfl) rfl (by assumption) rfl) rfl rfl rfl ?_ | refine ALK.rg (fun hb => opr_loadK rfl (eB rfl) rfl (by assumption) rfl) rfl rfl rfl ?_); (first | refine ALK.g (fun hb => opn_load rfl (eB rfl) rfl) rfl rfl rfl ?_ | refine ALK.rg (fun hb => opr_load rfl (eB rfl) rfl rfl) rfl rfl rfl ?_ | refine ALK.rg (fun hb => opr_loadRow rfl rfl (eB rfl) rfl (by assumption) rfl) rfl rfl rfl ?_ | refine ALK.rg (fun hb => opr_loadK0 rfl (eB rfl) rfl (by assumption) rfl) rfl rfl rfl ?_ | refine ALK.rg (fun hb => opr_loadK rfl (eB rfl) rfl (by assumption) rfl) rfl rfl rfl ?_); refine ALK.g (fun hb => opn_call (SameStates_fn _ _) (Evs.cons Ev.a (Evs.cons Ev.a Evs.nil))) rfl rfl rfl ?_; refine ALK.n (opn_pick_and (eB rfl) rfl (fun hb2 => by first | exact hb2 | (rw [hb, hb2]; rfl) | simp_all [gd]) rfl) rfl ?_; refine nA rfl rfl ?_; refine ALK.nil ?_; try show WP _ _ _ _ _ _)
  refine WP.ret ?_
  refine RetOk.one Try.results3 (ResV.tmp rfl (ImOf.im (ILe.bool ?_)))
  rw [d5, d6, d7, d8, hcm]
  simp
end Go.Proofs.Ytjgmbgfcffnanac
