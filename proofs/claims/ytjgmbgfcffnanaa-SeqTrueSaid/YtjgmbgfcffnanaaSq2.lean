/- Package seq: check. -/
import Derived.Test.YtjgmbgfcffnanaaSq
import Derived.Lib.MinMax
namespace Go.Proofs.Ytjgmbgfcffnanaa
open Go.RowKit

theorem opn_max {C : Cfg} {σ : Env} {d : Option Tmp} {ty : TypeId} {pos : String} {after : Array Edge} {gu : Option (Nat × Bool)} {x y : Go.Operand} {ts : Array TypeId} {a b : Int} (hx : Ev σ x (.im (IV.int a))) (hy : Ev σ y (.im (IV.int b))) : OpN C ⟨d, .call { callee := .builtin .max, args := #[x, y], argTypes := ts }, ty, pos, after, gu⟩ σ (.im (IV.int (max a b))) := OpN.pure fun ρ μ ac w hl ha => by
  have h1 := hx.val hl (by simp [Op.operands, Call.operands])
  have h2 := hy.val hl (by simp [Op.operands, Call.operands])
  refine ⟨_, ?_, R_im.2 rfl⟩
  simp [execOp, resolve, invoke, builtin, h1, h2, Go.Lib.run_max_ints]

theorem wrap64_id {n : Int} (h : -9223372036854775808 ≤ n) (h2 : n ≤ 9223372036854775807) : wrap64 n = n := by unfold wrap64; omega
def lenB (b : List (List Txn)) : Nat := (b.map List.length).sum
def sumTo (bs : Bats) (k : Nat) : Nat := ((bs.take k).map lenB).sum
def maxTo (bs : Bats) (k : Nat) : Nat := (bs.take k).foldl (fun m b => max m b.length) 0
def errsB (bs : Bats) : List Int := bs.flatMap fun b => b.flatMap fun l => l.flatMap txErrs
def seqE (bs : Bats) : Int := if bs.length ≤ 3 ∧ maxTo bs bs.length ≤ 6 ∧ sumTo bs bs.length ≤ 8 then fe (errsB bs) else 2
def BatsB (bs : Bats) : Prop := ∀ b ∈ bs, ∀ l ∈ b, TxsB l ∧ l.length ≤ 2199023255552
theorem sumTo_next {bs : Bats} {k : Nat} {b : List (List Txn)} (h : bs[k]? = some b) : sumTo bs (k + 1) = sumTo bs k + lenB b := by
  unfold sumTo; rw [take_push h, List.map_append, List.sum_append]; simp
theorem maxTo_next {bs : Bats} {k : Nat} {b : List (List Txn)} (h : bs[k]? = some b) : maxTo bs (k + 1) = max (maxTo bs k) b.length := by
  unfold maxTo; rw [take_push h, List.foldl_append]; rfl
theorem maxTo_mono {bs : Bats} {k m : Nat} (h : k ≤ m) : maxTo bs k ≤ maxTo bs m := by
  induction m with
  | zero => obtain rfl : k = 0 := by omega
            exact Nat.le_refl _
  | succ m ih =>
    rcases Nat.lt_or_ge k (m + 1) with h1 | h1
    · refine Nat.le_trans (ih (by omega)) ?_
      rcases Nat.lt_or_ge m bs.length with h2 | h2
      · obtain ⟨b, hb⟩ := get_at h2
        rw [maxTo_next hb]; omega
      · unfold maxTo
        rw [List.take_of_length_le h2, List.take_of_length_le (by omega)]
        exact Nat.le_refl _
    · obtain rfl : k = m + 1 := by omega
      exact Nat.le_refl _
theorem lenB_bound {b : List (List Txn)} {n : Nat} (h : ∀ l ∈ b, l.length ≤ n) : lenB b ≤ b.length * n := by
  unfold lenB
  induction b with
  | nil => simp
  | cons l b ih =>
    have := h l List.mem_cons_self
    have := ih fun x hx => h x (List.mem_cons_of_mem _ hx)
    simp only [List.map_cons, List.sum_cons, List.length_cons, Nat.add_mul, Nat.one_mul]
    omega
theorem lenTake {b : List (List Txn)} {m : Nat} {l : List Txn} (h : b[m]? = some l) : lenB (b.take (m + 1)) = lenB (b.take m) + l.length := by
  unfold lenB; rw [take_push h, List.map_append, List.sum_append]; simp
theorem sumTo_bound {bs : Bats} (hb : BatsB bs) : ∀ {k : Nat}, k ≤ 3 → maxTo bs k ≤ 6 → sumTo bs k ≤ k * 13194139533312
  | 0, _, _ => by simp [sumTo]
  | k + 1, hk, hm => by
    have h1 := sumTo_bound hb (k := k) (by omega) (Nat.le_trans (maxTo_mono (by omega)) hm)
    rcases Nat.lt_or_ge k bs.length with h | h
    · obtain ⟨b, hbk⟩ := get_at h
      rw [sumTo_next hbk]
      rw [maxTo_next hbk] at hm
      have h2 := lenB_bound (b := b) (n := 2199023255552) fun l hl => (hb b (List.mem_of_getElem? hbk) l hl).2
      have : b.length * 2199023255552 ≤ 6 * 2199023255552 := Nat.mul_le_mul_right _ (by omega)
      omega
    · have : sumTo bs (k + 1) = sumTo bs k := by unfold sumTo; rw [List.take_of_length_le h, List.take_of_length_le (by omega)]
      omega

set_option maxRecDepth 100000 in
set_option maxHeartbeats 1000000 in
theorem seq_check_fn (bs : Bats) (hb : BatsB bs) : Fn (Cfg.mk Try.prog (ttAt ttl) ttl_ok.ok mixd) 56 [batsV bs] (IV.int (seqE bs)) := by
  refine Fn.of_wp _ Try.func56 rfl (by kernel_rfl) Try.ntmps56 rfl ?_
  intro F hD hG
  refine WP.len 0 rfl (fun hl1 => ?_)
  ((repeat apply WP.seq); apply WP.lreg; refine nA rfl rfl ?_; refine ALK.nil ?_; try show WP _ _ _ _ _ _)
  ((repeat apply WP.seq); apply WP.lreg; refine nA rfl rfl ?_; refine ALK.nil ?_; try show WP _ _ _ _ _ _)
  ((repeat apply WP.seq); apply WP.lreg; refine nA rfl rfl ?_; refine ALK.nil ?_; try show WP _ _ _ _ _ _)
  ((repeat apply WP.seq); apply WP.lreg; refine nM rfl rfl ?_; refine ALK.n OpN.ln rfl ?_; refine nM rfl rfl ?_; refine ALK.nil ?_; try show WP _ _ _ _ _ _)
  ((repeat apply WP.seq); apply WP.block)
  refine WP.loop (fun c : Nat × Int => ⟨[(18, .im (IV.int c.1)), (16, .im (batsV bs)), (17, .im (IV.int bs.length)), (0, .im (batsV bs)), (3, .im (IV.int c.2)), (4, .im (IV.int (maxTo bs c.1)))], [], 0⟩) (fun c => c.1 ≤ bs.length ∧ -9223372036854775808 ≤ c.2 ∧ c.2 ≤ 9223372036854775807 ∧ (c.1 ≤ 3 → maxTo bs c.1 ≤ 6 → c.2 = sumTo bs c.1)) (fun c => bs.length - c.1) (0, 0) ⟨Nat.zero_le _, by simp, by simp, fun _ _ => rfl⟩ (Shift.sub [] rfl SubE.a SubH.nil) ?_
  rintro ⟨k, s⟩ ⟨hk, hs0, hs1, hs⟩
  simp only at hk hs0 hs1 hs
  ((repeat apply WP.seq); apply WP.lreg; refine ALK.n OpN.cm rfl ?_; refine ALK.nil ?_; try show WP _ _ _ _ _ _)
  ((repeat apply WP.seq); refine WP.cond rfl (fun h => ?_) (fun h => ?_))
  · (refine WP.skip ?_; show WP _ _ _ _ _ _)
    have hlt : k < bs.length := by simpa using h
    obtain ⟨b, hbk⟩ := get_at hlt
    have hmx := maxTo_next hbk
    have hbB := hb b (List.mem_of_getElem? hbk)
    ((repeat apply WP.seq); apply WP.block)
    ((repeat apply WP.seq); apply WP.lreg; refine ALK.n OpN.ix rfl ?_; (first | refine ALK.n (opn_load rfl (eB rfl) rfl) rfl ?_ | refine ALK.r OpR.ld rfl ?_); refine nA rfl rfl ?_; refine ALK.nil ?_; try show WP _ _ _ _ _ _)
    ((repeat apply WP.seq); apply WP.lreg; refine nM rfl rfl ?_; refine nM rfl rfl ?_; refine ALK.n OpN.ln rfl ?_; refine ALK.n (opn_max (eB rfl) (eB rfl)) rfl ?_; refine nA rfl rfl ?_; refine ALK.nil ?_; try show WP _ _ _ _ _ _)
    refine WP.len 6 rfl (fun hl2 => ?_)
    ((repeat apply WP.seq); apply WP.lreg; refine nM rfl rfl ?_; refine ALK.n OpN.ln rfl ?_; refine nM rfl rfl ?_; refine ALK.nil ?_; try show WP _ _ _ _ _ _)
    ((repeat apply WP.seq); apply WP.block)
    refine WP.loop (fun c : Nat × Int => ⟨[(28, .im (IV.int c.1)), (26, .im (IV.view 1 cTs b)), (27, .im (IV.int b.length)), (18, .im (IV.int k)), (16, .im (batsV bs)), (17, .im (IV.int bs.length)), (0, .im (batsV bs)), (3, .im (IV.int c.2)), (4, .im (IV.int (max ((maxTo bs k : Nat) : Int) (b.length : Int))))], [], 0⟩) (fun c => c.1 ≤ b.length ∧ -9223372036854775808 ≤ c.2 ∧ c.2 ≤ 9223372036854775807 ∧ (k < 3 → maxTo bs (k + 1) ≤ 6 → c.2 = sumTo bs k + lenB (b.take c.1))) (fun c => b.length - c.1) (0, s) ⟨Nat.zero_le _, hs0, hs1, fun h3 h6 => by
      rw [hs (by omega) (by omega)]; simp [lenB]⟩ (Shift.sub [] rfl SubE.a SubH.nil) ?_
    rintro ⟨m, s'⟩ ⟨hm, hm0, hm1, hsm⟩
    simp only at hm hm0 hm1 hsm
    ((repeat apply WP.seq); apply WP.lreg; refine ALK.n OpN.cm rfl ?_; refine ALK.nil ?_; try show WP _ _ _ _ _ _)
    ((repeat apply WP.seq); refine WP.cond rfl (fun h => ?_) (fun h => ?_))
    · (refine WP.skip ?_; show WP _ _ _ _ _ _)
      have hmlt : m < b.length := by simpa using h
      obtain ⟨l, hlm⟩ := get_at hmlt
      have hlB := (hbB l (List.mem_of_getElem? hlm)).2
      ((repeat apply WP.seq); apply WP.block)
      ((repeat apply WP.seq); apply WP.lreg; refine ALK.n OpN.ix rfl ?_; (first | refine ALK.n (opn_load rfl (eB rfl) rfl) rfl ?_ | refine ALK.r OpR.ld rfl ?_); refine nA rfl rfl ?_; refine ALK.nil ?_; try show WP _ _ _ _ _ _)
      ((repeat apply WP.seq); apply WP.lreg; refine nM rfl rfl ?_; refine nM rfl rfl ?_; refine ALK.n OpN.ln rfl ?_; refine ALK.n (opn_arith (eB rfl) (eB rfl) rfl) rfl ?_; refine nA rfl rfl ?_; refine ALK.nil ?_; try show WP _ _ _ _ _ _)
      ((repeat apply WP.seq); apply WP.lreg; refine ALK.n OpN.ar rfl ?_; refine nM rfl rfl ?_; refine ALK.nil ?_; try show WP _ _ _ _ _ _)
      show ∃ _, _ ∧ _ ∧ _
      refine ⟨(m + 1, wrap64 (s' + l.length)), ⟨by simp only; omega, by simp only; unfold wrap64; omega, by simp only; unfold wrap64; omega, fun h3 h6 => ?_⟩, by simp only; omega, (Shift.sub [] rfl SubE.a SubH.nil)⟩
      simp only
      have h7 := hsm h3 h6
      have h8 := sumTo_bound hb (k := k) (by omega) (by omega)
      have h9 := lenB_bound (b := b.take m) (n := 2199023255552) fun x hx => (hbB x (List.mem_of_mem_take hx)).2
      have h10 : (b.take m).length * 2199023255552 ≤ 6 * 2199023255552 := Nat.mul_le_mul_right _ (by rw [List.length_take]; omega)
      rw [lenTake hlm, wrap64_id (by omega) (by omega), h7]
      push_cast
      omega
    · ((repeat apply WP.seq); refine WP.exit ?_; show WP _ _ _ _ _ _)
      have hmb : m = b.length := by simp at h; omega
      subst hmb
      ((repeat apply WP.seq); apply WP.lreg; refine ALK.n OpN.ar rfl ?_; refine nM rfl rfl ?_; refine ALK.nil ?_; try show WP _ _ _ _ _ _)
      show ∃ _, _ ∧ _ ∧ _
      have hmx2 : max ((maxTo bs k : Nat) : Int) (b.length : Int) = ((maxTo bs (k + 1) : Nat) : Int) := by rw [hmx]; omega
      rw [hmx2]
      refine ⟨(k + 1, s'), ⟨by simp only; omega, hm0, hm1, fun h3 h6 => ?_⟩, by simp only; omega, (Shift.sub [] rfl SubE.a SubH.nil)⟩
      simp only at h3 h6 ⊢
      rw [hsm (by omega) h6, List.take_length, sumTo_next hbk]
      push_cast; rfl
  · ((repeat apply WP.seq); refine WP.exit ?_; show WP _ _ _ _ _ _)
    have hkb : k = bs.length := by simp at h; omega
    subst hkb
    ((repeat apply WP.seq); apply WP.lreg; refine nM rfl rfl ?_; refine ALK.n OpN.ln rfl ?_; refine ALK.n OpN.cm rfl ?_; refine nM rfl rfl ?_; refine gM rfl rfl rfl rfl ?_; (first | refine ALK.g (fun hb => opn_cmp (eC rfl hb) (eB rfl) rfl) rfl rfl rfl ?_ | refine ALK.g (fun hb => opn_cmpB rfl (eC rfl hb) (eB rfl) rfl) rfl rfl rfl ?_); refine ALK.n (opn_pick_or (eB rfl) rfl rfl (fun hb2 => by first | (rw [hb2]; rfl) | (rw [hb, hb2]; rfl) | simp_all [gd])) rfl ?_; refine nM rfl rfl ?_; refine gM rfl rfl rfl rfl ?_; (first | refine ALK.g (fun hb => opn_cmp (eC rfl hb) (eB rfl) rfl) rfl rfl rfl ?_ | refine ALK.g (fun hb => opn_cmpB rfl (eC rfl hb) (eB rfl) rfl) rfl rfl rfl ?_); refine ALK.n (opn_pick_or (eB rfl) rfl rfl (fun hb2 => by first | (rw [hb2]; rfl) | (rw [hb, hb2]; rfl) | simp_all [gd])) rfl ?_; refine ALK.nil ?_; try show WP _ _ _ _ _ _)
    ((repeat apply WP.seq); refine WP.cond rfl (fun h => ?_) (fun h => ?_))
    · ((repeat apply WP.seq); apply WP.lreg; refine nA rfl rfl ?_; refine ALK.nil ?_; try show WP _ _ _ _ _ _)
      have hr : seqE bs = 2 := by
        unfold seqE
        rw [if_neg]
        rintro ⟨a1, a2, a3⟩
        have := hs a1 a2
        simp at h
        omega
      ((repeat apply WP.seq); refine WP.ret ?_; first | exact RetOk.one Try.results56 ResV.a | exact RetOk.tup Try.results56 rfl ResVs.a)
    (refine WP.skip ?_; show WP _ _ _ _ _ _)
    simp at h
    have h3 : bs.length ≤ 3 := by omega
    have h6 : maxTo bs bs.length ≤ 6 := by omega
    have hs2 := hs h3 h6
    have hr0 : seqE bs = fe (errsB bs) := by unfold seqE; rw [if_pos ⟨h3, h6, by omega⟩]
    rw [hr0]
    ((repeat apply WP.seq); apply WP.lreg; refine nM rfl rfl ?_; refine ALK.n OpN.ln rfl ?_; refine nM rfl rfl ?_; refine ALK.nil ?_; try show WP _ _ _ _ _ _)
    ((repeat apply WP.seq); apply WP.block)
    refine WP.loop (fun i : Nat => ⟨[(51, .im (IV.int i)), (49, .im (batsV bs)), (50, .im (IV.int bs.length))], [], 0⟩) (fun i => i ≤ bs.length ∧ fe (errsB (bs.take i)) = 0) (fun i => bs.length - i) 0 ⟨Nat.zero_le _, rfl⟩ (Shift.sub [] rfl SubE.a SubH.nil) ?_
    rintro i ⟨hi, hei⟩
    ((repeat apply WP.seq); apply WP.lreg; refine ALK.n OpN.cm rfl ?_; refine ALK.nil ?_; try show WP _ _ _ _ _ _)
    ((repeat apply WP.seq); refine WP.cond rfl (fun h => ?_) (fun h => ?_))
    · (refine WP.skip ?_; show WP _ _ _ _ _ _)
      have hilt : i < bs.length := by simpa using h
      obtain ⟨b, hbi⟩ := get_at hilt
      have hbB := hb b (List.mem_of_getElem? hbi)
      ((repeat apply WP.seq); apply WP.block)
      ((repeat apply WP.seq); apply WP.lreg; refine ALK.n OpN.ix rfl ?_; (first | refine ALK.n (opn_load rfl (eB rfl) rfl) rfl ?_ | refine ALK.r OpR.ld rfl ?_); refine nA rfl rfl ?_; refine ALK.nil ?_; try show WP _ _ _ _ _ _)
      refine WP.len 10 rfl (fun hl3 => ?_)
      ((repeat apply WP.seq); apply WP.lreg; refine nM rfl rfl ?_; refine ALK.n OpN.ln rfl ?_; refine nM rfl rfl ?_; refine ALK.nil ?_; try show WP _ _ _ _ _ _)
      ((repeat apply WP.seq); apply WP.block)
      refine WP.loop (fun j : Nat => ⟨[(57, .im (IV.int j)), (55, .im (IV.view 1 cTs b)), (56, .im (IV.int b.length)), (51, .im (IV.int i)), (49, .im (batsV bs)), (50, .im (IV.int bs.length))], [], 0⟩) (fun j => j ≤ b.length ∧ fe ((b.take j).flatMap fun l => l.flatMap txErrs) = 0) (fun j => b.length - j) 0 ⟨Nat.zero_le _, rfl⟩ (Shift.sub [] rfl SubE.a SubH.nil) ?_
      rintro j ⟨hj, hej⟩
      ((repeat apply WP.seq); apply WP.lreg; refine ALK.n OpN.cm rfl ?_; refine ALK.nil ?_; try show WP _ _ _ _ _ _)
      ((repeat apply WP.seq); refine WP.cond rfl (fun h => ?_) (fun h => ?_))
      · (refine WP.skip ?_; show WP _ _ _ _ _ _)
        have hjlt : j < b.length := by simpa using h
        obtain ⟨l, hlj⟩ := get_at hjlt
        obtain ⟨hlT, hlL⟩ := hbB l (List.mem_of_getElem? hlj)
        ((repeat apply WP.seq); apply WP.block)
        ((repeat apply WP.seq); apply WP.lreg; refine ALK.n OpN.ix rfl ?_; (first | refine ALK.n (opn_load rfl (eB rfl) rfl) rfl ?_ | refine ALK.r OpR.ld rfl ?_); refine nA rfl rfl ?_; refine ALK.nil ?_; try show WP _ _ _ _ _ _)
        ((repeat apply WP.seq); apply WP.lreg; refine nM rfl rfl ?_; refine ALK.n OpN.ln rfl ?_; refine nM rfl rfl ?_; refine ALK.nil ?_; try show WP _ _ _ _ _ _)
        ((repeat apply WP.seq); apply WP.block)
        refine WP.loop (fun n : Nat => ⟨[(63, .im (IV.int n)), (61, .im (txsV l)), (62, .im (IV.int l.length)), (57, .im (IV.int j)), (55, .im (IV.view 1 cTs b)), (56, .im (IV.int b.length)), (51, .im (IV.int i)), (49, .im (batsV bs)), (50, .im (IV.int bs.length))], [], 0⟩) (fun n => n ≤ l.length ∧ fe ((l.take n).flatMap txErrs) = 0) (fun n => l.length - n) 0 ⟨Nat.zero_le _, rfl⟩ (Shift.sub [] rfl SubE.a SubH.nil) ?_
        rintro n ⟨hn, hen⟩
        ((repeat apply WP.seq); apply WP.lreg; refine ALK.n OpN.cm rfl ?_; refine ALK.nil ?_; try show WP _ _ _ _ _ _)
        ((repeat apply WP.seq); refine WP.cond rfl (fun h => ?_) (fun h => ?_))
        · (refine WP.skip ?_; show WP _ _ _ _ _ _)
          have hnlt : n < l.length := by simpa using h
          obtain ⟨t, htn⟩ := get_at hnlt
          have hbt : TxnB t := hlT t (List.mem_of_getElem? htn)
          ((repeat apply WP.seq); apply WP.block)
          ((repeat apply WP.seq); apply WP.lreg; refine ALK.n OpN.ix rfl ?_; (first | refine ALK.n (opn_load rfl (eB rfl) rfl) rfl ?_ | refine ALK.r OpR.ld rfl ?_); refine ALK.a (opa_alloc rfl rfl) rfl ?_; (first | refine ALK.e (ope_store rfl (eB rfl) (eB rfl) Cs.a rfl rfl rfl) rfl rfl ?_ | refine ALK.e (ope_storeRow rfl rfl (eB rfl) (eB rfl) (oc_val rfl) rfl rfl (by assumption)) rfl rfl ?_); refine ALK.nil ?_; try show WP _ _ _ _ _ _)
          refine WP.shift (Shift.frzBlk 14 rfl rfl rfl) ?_
          ((repeat apply WP.seq); apply WP.lreg; (first | refine ALK.n (opn_load rfl (eB rfl) rfl) rfl ?_ | refine ALK.r OpR.ld rfl ?_); refine ALK.n (opn_call (txn_Check_fn _ (by assumption)) (Evs.cons Ev.a Evs.nil)) rfl ?_; refine nA rfl rfl ?_; refine ALK.nil ?_; try show WP _ _ _ _ _ _)
          ((repeat apply WP.seq); apply WP.lreg; refine nM rfl rfl ?_; refine ALK.n OpN.cm rfl ?_; refine ALK.nil ?_; try show WP _ _ _ _ _ _)
          ((repeat apply WP.seq); refine WP.cond rfl (fun h => ?_) (fun h => ?_))
          · ((repeat apply WP.seq); apply WP.lreg; refine nM rfl rfl ?_; refine nA rfl rfl ?_; refine ALK.nil ?_; try show WP _ _ _ _ _ _)
            have hne : checkTxn t ≠ 0 := by simpa using h
            have e1 : fe (l.flatMap txErrs) = checkTxn t := by
              have := fe_flat_at (F := txErrs) hen htn (by rw [txErrs, fe_one]; exact hne) []
              rw [List.append_nil, txErrs, fe_one] at this
              exact this
            have e2 : fe (b.flatMap fun l => l.flatMap txErrs) = checkTxn t := by
              have := fe_flat_at (F := fun l : List Txn => l.flatMap txErrs) hej hlj (by rw [e1]; exact hne) []
              rw [List.append_nil, e1] at this
              exact this
            have hr : fe (errsB bs) = checkTxn t := by
              have := fe_flat_at (F := fun b : List (List Txn) => b.flatMap fun l : List Txn => l.flatMap txErrs) (show fe ((bs.take i).flatMap fun b : List (List Txn) => b.flatMap fun l : List Txn => l.flatMap txErrs) = 0 from hei) hbi (by rw [e2]; exact hne) []
              rw [List.append_nil, e2] at this
              exact this
            rw [hr]
            ((repeat apply WP.seq); refine WP.ret ?_; first | exact RetOk.one Try.results56 ResV.a | exact RetOk.tup Try.results56 rfl ResVs.a)
          (refine WP.skip ?_; show WP _ _ _ _ _ _)
          ((repeat apply WP.seq); apply WP.lreg; refine ALK.n OpN.ar rfl ?_; refine nM rfl rfl ?_; refine ALK.nil ?_; try show WP _ _ _ _ _ _)
          show ∃ _, _ ∧ _ ∧ _
          exact ⟨n + 1, ⟨by omega, fe_flat_next (F := txErrs) hen htn (by rw [txErrs, fe_one]; simpa using h)⟩, by omega, (Shift.sub [] rfl SubE.a SubH.nil)⟩
        · ((repeat apply WP.seq); refine WP.exit ?_; show WP _ _ _ _ _ _)
          have hnl : ¬ n < l.length := by simpa using h
          rw [List.take_of_length_le (by omega)] at hen
          ((repeat apply WP.seq); apply WP.lreg; refine ALK.n OpN.ar rfl ?_; refine nM rfl rfl ?_; refine ALK.nil ?_; try show WP _ _ _ _ _ _)
          show ∃ _, _ ∧ _ ∧ _
          exact ⟨j + 1, ⟨by omega, fe_flat_next (F := fun l : List Txn => l.flatMap txErrs) hej hlj hen⟩, by omega, (Shift.sub [] rfl SubE.a SubH.nil)⟩
      · ((repeat apply WP.seq); refine WP.exit ?_; show WP _ _ _ _ _ _)
        have hjl : ¬ j < b.length := by simpa using h
        rw [List.take_of_length_le (by omega)] at hej
        ((repeat apply WP.seq); apply WP.lreg; refine ALK.n OpN.ar rfl ?_; refine nM rfl rfl ?_; refine ALK.nil ?_; try show WP _ _ _ _ _ _)
        show ∃ _, _ ∧ _ ∧ _
        exact ⟨i + 1, ⟨by omega, fe_flat_next (F := fun b : List (List Txn) => b.flatMap fun l : List Txn => l.flatMap txErrs) (show fe ((bs.take i).flatMap fun b : List (List Txn) => b.flatMap fun l : List Txn => l.flatMap txErrs) = 0 from hei) hbi hej⟩, by omega, (Shift.sub [] rfl SubE.a SubH.nil)⟩
    · ((repeat apply WP.seq); refine WP.exit ?_; show WP _ _ _ _ _ _)
      have hil : ¬ i < bs.length := by simpa using h
      rw [List.take_of_length_le (by omega)] at hei
      ((repeat apply WP.seq); apply WP.lreg; refine nA rfl rfl ?_; refine ALK.nil ?_; try show WP _ _ _ _ _ _)
      rw [hei]
      ((repeat apply WP.seq); refine WP.ret ?_; first | exact RetOk.one Try.results56 ResV.a | exact RetOk.tup Try.results56 rfl ResVs.a)
end Go.Proofs.Ytjgmbgfcffnanaa
