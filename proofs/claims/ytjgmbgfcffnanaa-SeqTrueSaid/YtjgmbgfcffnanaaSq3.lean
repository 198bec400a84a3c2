/- Package seq's reference: what is merged, and where it comes from. -/
import Derived.Test.YtjgmbgfcffnanaaSq2
namespace Go.Proofs.Ytjgmbgfcffnanaa
open Go.RowKit

structure TagT where
  site : Int
  epoch : Int
  n : Int
deriving DecidableEq
def cW3 (x : TagT) : List IV := [IV.int x.site, IV.int x.epoch, IV.int x.n]
abbrev tagsV (l : List TagT) : IV := IV.view 3 cW3 l
def batAt (bs : Bats) (p : Nat × Nat) : List Txn := (bs[p.1]?.getD [])[p.2]?.getD []
def tagsOf (p : Nat × Nat) (n : Nat) : List TagT := (List.range n).map fun (k : Nat) => ⟨p.1, p.2, k⟩
def mergeL (bs : Bats) (ps : List (Nat × Nat)) : List Txn := ps.flatMap (batAt bs)
def whereL (bs : Bats) (ps : List (Nat × Nat)) : List TagT := ps.flatMap fun p => tagsOf p (batAt bs p).length
def mergeB (bs : Bats) : List Txn := if seqE bs = 0 then mergeL bs (allB bs) else []
def whereB (bs : Bats) : List TagT := if seqE bs = 0 then whereL bs (allB bs) else []
theorem tagsOf_next (p : Nat × Nat) (n : Nat) : tagsOf p (n + 1) = tagsOf p n ++ [⟨p.1, p.2, n⟩] := by unfold tagsOf; rw [List.range_succ, List.map_append]; rfl
theorem whereL_len (bs : Bats) (ps : List (Nat × Nat)) : (whereL bs ps).length = (mergeL bs ps).length := by
  unfold whereL mergeL
  induction ps with
  | nil => rfl
  | cons p ps ih => simp only [List.flatMap_cons, List.length_append, ih]; simp [tagsOf]
theorem mergeL_bound {bs : Bats} (h : ∀ b ∈ bs, ∀ l ∈ b, l.length ≤ 8) : ∀ ps : List (Nat × Nat), (mergeL bs ps).length ≤ ps.length * 8
  | [] => by simp [mergeL]
  | p :: ps => by
    have ih := mergeL_bound h ps
    have h1 : (batAt bs p).length ≤ 8 := by
      unfold batAt
      cases e : bs[p.1]? with
      | none => simp
      | some b =>
        simp only [Option.getD_some]
        cases e2 : b[p.2]? with
        | none => simp
        | some l => exact h b (List.mem_of_getElem? e) l (List.mem_of_getElem? e2)
    unfold mergeL at ih ⊢
    simp only [List.flatMap_cons, List.length_append, List.length_cons]
    omega
theorem siteTo_len (bs : Bats) (e : Nat) : ∀ n, (siteTo bs e n).length ≤ n
  | 0 => by simp [siteTo]
  | n + 1 => by
    have := siteTo_len bs e n
    rw [siteTo_next, List.length_append]
    split <;> simp <;> omega
theorem epochTo_len (bs : Bats) : ∀ n, (epochTo bs n).length ≤ n * bs.length
  | 0 => by simp [epochTo]
  | n + 1 => by
    have := epochTo_len bs n
    have := siteTo_len bs n bs.length
    rw [epochTo_next, List.length_append, Nat.add_mul]
    omega
theorem lenB_mem {b : List (List Txn)} {l : List Txn} (h : l ∈ b) : l.length ≤ lenB b := by
  unfold lenB
  induction b with
  | nil => cases h
  | cons x b ih =>
    rcases List.mem_cons.1 h with rfl | h
    · simp
    · have := ih h
      simp only [List.map_cons, List.sum_cons]; omega
theorem sumTo_mem {bs : Bats} {b : List (List Txn)} (h : b ∈ bs) : lenB b ≤ sumTo bs bs.length := by
  unfold sumTo
  rw [List.take_length]
  induction bs with
  | nil => cases h
  | cons x bs ih =>
    rcases List.mem_cons.1 h with rfl | h
    · simp
    · have := ih h
      simp only [List.map_cons, List.sum_cons]; omega

set_option maxRecDepth 100000 in
set_option maxHeartbeats 1000000 in
theorem merged_fn (bs : Bats) (hb : BatsB bs) : Fn (Cfg.mk Try.prog (ttAt ttl) ttl_ok.ok mixd) 58 [batsV bs] (IV.tup [txsV (mergeB bs), tagsV (whereB bs), IV.int (seqE bs)]) := by
  refine Fn.of_wp _ Try.func58 rfl (by kernel_rfl) Try.ntmps58 rfl ?_
  intro F hD hG
  refine WP.len 0 rfl (fun hl1 => ?_)
  ((repeat apply WP.seq); apply WP.lreg; refine nA rfl rfl ?_; refine nA rfl rfl ?_; refine nA rfl rfl ?_; refine ALK.nil ?_; try show WP _ _ _ _ _ _)
  ((repeat apply WP.seq); apply WP.lreg; refine nA rfl rfl ?_; refine ALK.nil ?_; try show WP _ _ _ _ _ _)
  ((repeat apply WP.seq); apply WP.lreg; refine nM rfl rfl ?_; refine ALK.n OpN.ln rfl ?_; refine ALK.n OpN.cm rfl ?_; refine ALK.nil ?_; try show WP _ _ _ _ _ _)
  have bad : seqE bs = 2 → mergeB bs = [] ∧ whereB bs = [] := fun h => by unfold mergeB whereB; rw [h]; exact ⟨rfl, rfl⟩
  ((repeat apply WP.seq); refine WP.cond rfl (fun h => ?_) (fun h => ?_))
  · ((repeat apply WP.seq); apply WP.lreg; refine nA rfl rfl ?_; refine nA rfl rfl ?_; refine nA rfl rfl ?_; refine ALK.nil ?_; try show WP _ _ _ _ _ _)
    have hr : seqE bs = 2 := by
      unfold seqE
      rw [if_neg]
      rintro ⟨a1, a2, a3⟩
      simp at h; omega
    rw [(bad hr).1, (bad hr).2, hr]
    ((repeat apply WP.seq); refine WP.ret ?_; first | exact RetOk.one Try.results58 ResV.a | exact RetOk.tup Try.results58 rfl ResVs.a)
  (refine WP.skip ?_; show WP _ _ _ _ _ _)
  have h3 : bs.length ≤ 3 := by simp at h; omega
  ((repeat apply WP.seq); apply WP.lreg; refine nA rfl rfl ?_; refine ALK.nil ?_; try show WP _ _ _ _ _ _)
  ((repeat apply WP.seq); apply WP.block)
  refine WP.loop (fun k : Nat => ⟨[(6, .im (IV.int k)), (0, .im (batsV bs)), (5, .im (IV.int (sumTo bs k)))], [], 0⟩) (fun k => k ≤ bs.length ∧ maxTo bs k ≤ 6) (fun k => bs.length - k) 0 ⟨Nat.zero_le _, by simp [maxTo]⟩ (Shift.sub [] rfl SubE.a SubH.nil) ?_
  rintro k ⟨hk, hmk⟩
  ((repeat apply WP.seq); apply WP.lreg; refine nM rfl rfl ?_; refine nM rfl rfl ?_; refine ALK.n OpN.ln rfl ?_; refine ALK.n OpN.cm rfl ?_; refine ALK.nil ?_; try show WP _ _ _ _ _ _)
  ((repeat apply WP.seq); refine WP.cond rfl (fun h => ?_) (fun h => ?_))
  · (refine WP.skip ?_; show WP _ _ _ _ _ _)
    have hlt : k < bs.length := by simpa using h
    obtain ⟨b, hbk⟩ := get_at hlt
    have hmx := maxTo_next hbk
    have hbB := hb b (List.mem_of_getElem? hbk)
    have hsb := sumTo_bound hb (k := k) (by omega) hmk
    ((repeat apply WP.seq); apply WP.block)
    ((repeat apply WP.seq); apply WP.lreg; refine nM rfl rfl ?_; refine nM rfl rfl ?_; refine ALK.n OpN.ix rfl ?_; (first | refine ALK.n (opn_load rfl (eB rfl) rfl) rfl ?_ | refine ALK.r OpR.ld rfl ?_); refine ALK.n OpN.ln rfl ?_; refine ALK.n OpN.cm rfl ?_; refine ALK.nil ?_; try show WP _ _ _ _ _ _)
    ((repeat apply WP.seq); refine WP.cond rfl (fun h => ?_) (fun h => ?_))
    · ((repeat apply WP.seq); apply WP.lreg; refine nA rfl rfl ?_; refine nA rfl rfl ?_; refine nA rfl rfl ?_; refine ALK.nil ?_; try show WP _ _ _ _ _ _)
      have hr : seqE bs = 2 := by
        unfold seqE
        rw [if_neg]
        rintro ⟨a1, a2, a3⟩
        have := maxTo_mono (bs := bs) (k := k + 1) (m := bs.length) (by omega)
        simp at h; omega
      rw [(bad hr).1, (bad hr).2, hr]
      ((repeat apply WP.seq); refine WP.ret ?_; first | exact RetOk.one Try.results58 ResV.a | exact RetOk.tup Try.results58 rfl ResVs.a)
    (refine WP.skip ?_; show WP _ _ _ _ _ _)
    have hb6 : b.length ≤ 6 := by simp at h; omega
    ((repeat apply WP.seq); apply WP.lreg; refine nA rfl rfl ?_; refine ALK.nil ?_; try show WP _ _ _ _ _ _)
    ((repeat apply WP.seq); apply WP.block)
    refine WP.loop (fun m : Nat => ⟨[(7, .im (IV.int m)), (6, .im (IV.int k)), (0, .im (batsV bs)), (5, .im (IV.int ((sumTo bs k + lenB (b.take m) : Nat) : Int)))], [], 0⟩) (fun m => m ≤ b.length) (fun m => b.length - m) 0 (Nat.zero_le _) (Shift.sub [] rfl SubE.a SubH.nil) ?_
    rintro m hm
    have h9 := lenB_bound (b := b.take m) (n := 2199023255552) fun x hx => (hbB x (List.mem_of_mem_take hx)).2
    have h10 : (b.take m).length * 2199023255552 ≤ 6 * 2199023255552 := Nat.mul_le_mul_right _ (by rw [List.length_take]; omega)
    ((repeat apply WP.seq); apply WP.lreg; refine nM rfl rfl ?_; refine nM rfl rfl ?_; refine nM rfl rfl ?_; refine ALK.n OpN.ix rfl ?_; (first | refine ALK.n (opn_load rfl (eB rfl) rfl) rfl ?_ | refine ALK.r OpR.ld rfl ?_); refine ALK.n OpN.ln rfl ?_; refine ALK.n OpN.cm rfl ?_; refine ALK.nil ?_; try show WP _ _ _ _ _ _)
    ((repeat apply WP.seq); refine WP.cond rfl (fun h => ?_) (fun h => ?_))
    · (refine WP.skip ?_; show WP _ _ _ _ _ _)
      have hmlt : m < b.length := by simpa using h
      obtain ⟨l, hlm⟩ := get_at hmlt
      have hlB := (hbB l (List.mem_of_getElem? hlm)).2
      have hnx := lenTake hlm
      ((repeat apply WP.seq); apply WP.block)
      ((repeat apply WP.seq); apply WP.lreg; refine nM rfl rfl ?_; refine nM rfl rfl ?_; refine nM rfl rfl ?_; refine ALK.n OpN.ix rfl ?_; (first | refine ALK.n (opn_load rfl (eB rfl) rfl) rfl ?_ | refine ALK.r OpR.ld rfl ?_); refine nM rfl rfl ?_; refine ALK.n OpN.ix rfl ?_; (first | refine ALK.n (opn_load rfl (eB rfl) rfl) rfl ?_ | refine ALK.r OpR.ld rfl ?_); refine ALK.n OpN.ln rfl ?_; refine ALK.n OpN.ar rfl ?_; refine nA rfl rfl ?_; refine ALK.nil ?_; try show WP _ _ _ _ _ _)
      ((repeat apply WP.seq); apply WP.lreg; refine nM rfl rfl ?_; refine ALK.n OpN.ar rfl ?_; refine nA rfl rfl ?_; refine ALK.nil ?_; try show WP _ _ _ _ _ _)
      show ∃ _, _ ∧ _ ∧ _
      exact ⟨m + 1, by omega, by omega, (Shift.sub [] rfl SubE.a SubH.nil)⟩
    · ((repeat apply WP.seq); refine WP.exit ?_; show WP _ _ _ _ _ _)
      have hmb : m = b.length := by simp at h; omega
      subst hmb
      have hsn := sumTo_next hbk
      rw [List.take_length, ← hsn]
      ((repeat apply WP.seq); apply WP.lreg; refine nM rfl rfl ?_; refine ALK.n OpN.ar rfl ?_; refine nA rfl rfl ?_; refine ALK.nil ?_; try show WP _ _ _ _ _ _)
      show ∃ _, _ ∧ _ ∧ _
      exact ⟨k + 1, ⟨by omega, by omega⟩, by omega, (Shift.sub [] rfl SubE.a SubH.nil)⟩
  · ((repeat apply WP.seq); refine WP.exit ?_; show WP _ _ _ _ _ _)
    have hkb : k = bs.length := by simp at h; omega
    subst hkb
    ((repeat apply WP.seq); apply WP.lreg; refine nM rfl rfl ?_; refine ALK.n OpN.cm rfl ?_; refine ALK.nil ?_; try show WP _ _ _ _ _ _)
    ((repeat apply WP.seq); refine WP.cond rfl (fun h => ?_) (fun h => ?_))
    · ((repeat apply WP.seq); apply WP.lreg; refine nA rfl rfl ?_; refine nA rfl rfl ?_; refine nA rfl rfl ?_; refine ALK.nil ?_; try show WP _ _ _ _ _ _)
      have hr : seqE bs = 2 := by
        unfold seqE
        rw [if_neg]
        rintro ⟨a1, a2, a3⟩
        simp at h; omega
      rw [(bad hr).1, (bad hr).2, hr]
      ((repeat apply WP.seq); refine WP.ret ?_; first | exact RetOk.one Try.results58 ResV.a | exact RetOk.tup Try.results58 rfl ResVs.a)
    (refine WP.skip ?_; show WP _ _ _ _ _ _)
    have hs8 : sumTo bs bs.length ≤ 8 := by simp at h; omega
    have hr0 : seqE bs = fe (errsB bs) := by unfold seqE; rw [if_pos ⟨h3, hmk, hs8⟩]
    have hl8 : ∀ b ∈ bs, ∀ l ∈ b, l.length ≤ 8 := fun b h1 l h2 => Nat.le_trans (lenB_mem h2) (Nat.le_trans (sumTo_mem h1) hs8)
    ((repeat apply WP.seq); apply WP.lreg; refine nA rfl rfl ?_; refine ALK.nil ?_; try show WP _ _ _ _ _ _)
    ((repeat apply WP.seq); apply WP.block)
    refine WP.loop (fun i : Nat => ⟨[(8, .im (IV.int i)), (0, .im (batsV bs))], [], 0⟩) (fun i => i ≤ bs.length ∧ fe (errsB (bs.take i)) = 0) (fun i => bs.length - i) 0 ⟨Nat.zero_le _, rfl⟩ (Shift.sub [] rfl SubE.a SubH.nil) ?_
    rintro i ⟨hi, hei⟩
    ((repeat apply WP.seq); apply WP.lreg; refine nM rfl rfl ?_; refine nM rfl rfl ?_; refine ALK.n OpN.ln rfl ?_; refine ALK.n OpN.cm rfl ?_; refine ALK.nil ?_; try show WP _ _ _ _ _ _)
    ((repeat apply WP.seq); refine WP.cond rfl (fun h => ?_) (fun h => ?_))
    · (refine WP.skip ?_; show WP _ _ _ _ _ _)
      have hilt : i < bs.length := by simpa using h
      obtain ⟨b, hbi⟩ := get_at hilt
      have hbB := hb b (List.mem_of_getElem? hbi)
      have hb6 : b.length ≤ 6 := by
        have h1 := maxTo_next hbi
        have h2 := maxTo_mono (bs := bs) (k := i + 1) (m := bs.length) (by omega)
        omega
      ((repeat apply WP.seq); apply WP.block)
      ((repeat apply WP.seq); apply WP.lreg; refine nA rfl rfl ?_; refine ALK.nil ?_; try show WP _ _ _ _ _ _)
      ((repeat apply WP.seq); apply WP.block)
      refine WP.loop (fun j : Nat => ⟨[(9, .im (IV.int j)), (8, .im (IV.int i)), (0, .im (batsV bs))], [], 0⟩) (fun j => j ≤ b.length ∧ fe ((b.take j).flatMap fun l => l.flatMap txErrs) = 0) (fun j => b.length - j) 0 ⟨Nat.zero_le _, rfl⟩ (Shift.sub [] rfl SubE.a SubH.nil) ?_
      rintro j ⟨hj, hej⟩
      ((repeat apply WP.seq); apply WP.lreg; refine nM rfl rfl ?_; refine nM rfl rfl ?_; refine nM rfl rfl ?_; refine ALK.n OpN.ix rfl ?_; (first | refine ALK.n (opn_load rfl (eB rfl) rfl) rfl ?_ | refine ALK.r OpR.ld rfl ?_); refine ALK.n OpN.ln rfl ?_; refine ALK.n OpN.cm rfl ?_; refine ALK.nil ?_; try show WP _ _ _ _ _ _)
      ((repeat apply WP.seq); refine WP.cond rfl (fun h => ?_) (fun h => ?_))
      · (refine WP.skip ?_; show WP _ _ _ _ _ _)
        have hjlt : j < b.length := by simpa using h
        obtain ⟨l, hlj⟩ := get_at hjlt
        obtain ⟨hlT, hlL⟩ := hbB l (List.mem_of_getElem? hlj)
        have hll8 := hl8 b (List.mem_of_getElem? hbi) l (List.mem_of_getElem? hlj)
        ((repeat apply WP.seq); apply WP.block)
        ((repeat apply WP.seq); apply WP.lreg; refine nA rfl rfl ?_; refine ALK.nil ?_; try show WP _ _ _ _ _ _)
        ((repeat apply WP.seq); apply WP.block)
        refine WP.loop (fun n : Nat => ⟨[(10, .im (IV.int n)), (9, .im (IV.int j)), (8, .im (IV.int i)), (0, .im (batsV bs))], [], 0⟩) (fun n => n ≤ l.length ∧ fe ((l.take n).flatMap txErrs) = 0) (fun n => l.length - n) 0 ⟨Nat.zero_le _, rfl⟩ (Shift.sub [] rfl SubE.a SubH.nil) ?_
        rintro n ⟨hn, hen⟩
        ((repeat apply WP.seq); apply WP.lreg; refine nM rfl rfl ?_; refine nM rfl rfl ?_; refine nM rfl rfl ?_; refine ALK.n OpN.ix rfl ?_; (first | refine ALK.n (opn_load rfl (eB rfl) rfl) rfl ?_ | refine ALK.r OpR.ld rfl ?_); refine nM rfl rfl ?_; refine ALK.n OpN.ix rfl ?_; (first | refine ALK.n (opn_load rfl (eB rfl) rfl) rfl ?_ | refine ALK.r OpR.ld rfl ?_); refine ALK.n OpN.ln rfl ?_; refine ALK.n OpN.cm rfl ?_; refine ALK.nil ?_; try show WP _ _ _ _ _ _)
        ((repeat apply WP.seq); refine WP.cond rfl (fun h => ?_) (fun h => ?_))
        · (refine WP.skip ?_; show WP _ _ _ _ _ _)
          have hnlt : n < l.length := by simpa using h
          obtain ⟨t, htn⟩ := get_at hnlt
          have hbt : TxnB t := hlT t (List.mem_of_getElem? htn)
          ((repeat apply WP.seq); apply WP.block)
          ((repeat apply WP.seq); apply WP.lreg; refine nM rfl rfl ?_; refine nM rfl rfl ?_; refine ALK.n OpN.ix rfl ?_; (first | refine ALK.n (opn_load rfl (eB rfl) rfl) rfl ?_ | refine ALK.r OpR.ld rfl ?_); refine nM rfl rfl ?_; refine ALK.n OpN.ix rfl ?_; (first | refine ALK.n (opn_load rfl (eB rfl) rfl) rfl ?_ | refine ALK.r OpR.ld rfl ?_); refine nM rfl rfl ?_; refine ALK.n OpN.ix rfl ?_; (first | refine ALK.n (opn_load rfl (eB rfl) rfl) rfl ?_ | refine ALK.r OpR.ld rfl ?_); refine ALK.n (opn_call (ref_CheckTxn_fn _ (by assumption)) (Evs.cons Ev.a Evs.nil)) rfl ?_; refine nA rfl rfl ?_; refine ALK.nil ?_; try show WP _ _ _ _ _ _)
          ((repeat apply WP.seq); apply WP.lreg; refine nM rfl rfl ?_; refine ALK.n OpN.cm rfl ?_; refine ALK.nil ?_; try show WP _ _ _ _ _ _)
          ((repeat apply WP.seq); refine WP.cond rfl (fun h => ?_) (fun h => ?_))
          · ((repeat apply WP.seq); apply WP.lreg; refine nM rfl rfl ?_; refine nA rfl rfl ?_; refine nA rfl rfl ?_; refine nA rfl rfl ?_; refine ALK.nil ?_; try show WP _ _ _ _ _ _)
            have hne : checkTxn t ≠ 0 := by simpa using h
            have e1 : fe (l.flatMap txErrs) = checkTxn t := by
              have := fe_flat_at (F := txErrs) hen htn (by rw [txErrs, fe_one]; exact hne) []
              rw [List.append_nil, txErrs, fe_one] at this
              exact this
            have e2 : fe (b.flatMap fun l => l.flatMap txErrs) = checkTxn t := by
              have := fe_flat_at (F := fun l : List Txn => l.flatMap txErrs) hej hlj (by rw [e1]; exact hne) []
              rw [List.append_nil, e1] at this
              exact this
            have hr : seqE bs = checkTxn t := by
              have := fe_flat_at (F := fun b : List (List Txn) => b.flatMap fun l : List Txn => l.flatMap txErrs) (show fe ((bs.take i).flatMap fun b : List (List Txn) => b.flatMap fun l : List Txn => l.flatMap txErrs) = 0 from hei) hbi (by rw [e2]; exact hne) []
              rw [List.append_nil, e2] at this
              exact hr0.trans this
            have hr1 : mergeB bs = [] := by unfold mergeB; rw [hr, if_neg hne]
            have hr2 : whereB bs = [] := by unfold whereB; rw [hr, if_neg hne]
            rw [hr1, hr2, hr]
            ((repeat apply WP.seq); refine WP.ret ?_; first | exact RetOk.one Try.results58 ResV.a | exact RetOk.tup Try.results58 rfl ResVs.a)
          (refine WP.skip ?_; show WP _ _ _ _ _ _)
          ((repeat apply WP.seq); apply WP.lreg; refine nM rfl rfl ?_; refine ALK.n OpN.ar rfl ?_; refine nA rfl rfl ?_; refine ALK.nil ?_; try show WP _ _ _ _ _ _)
          show ∃ _, _ ∧ _ ∧ _
          exact ⟨n + 1, ⟨by omega, fe_flat_next (F := txErrs) hen htn (by rw [txErrs, fe_one]; simpa using h)⟩, by omega, (Shift.sub [] rfl SubE.a SubH.nil)⟩
        · ((repeat apply WP.seq); refine WP.exit ?_; show WP _ _ _ _ _ _)
          have hnl : ¬ n < l.length := by simpa using h
          rw [List.take_of_length_le (by omega)] at hen
          ((repeat apply WP.seq); apply WP.lreg; refine nM rfl rfl ?_; refine ALK.n OpN.ar rfl ?_; refine nA rfl rfl ?_; refine ALK.nil ?_; try show WP _ _ _ _ _ _)
          show ∃ _, _ ∧ _ ∧ _
          exact ⟨j + 1, ⟨by omega, fe_flat_next (F := fun l : List Txn => l.flatMap txErrs) hej hlj hen⟩, by omega, (Shift.sub [] rfl SubE.a SubH.nil)⟩
      · ((repeat apply WP.seq); refine WP.exit ?_; show WP _ _ _ _ _ _)
        have hjl : ¬ j < b.length := by simpa using h
        rw [List.take_of_length_le (by omega)] at hej
        ((repeat apply WP.seq); apply WP.lreg; refine nM rfl rfl ?_; refine ALK.n OpN.ar rfl ?_; refine nA rfl rfl ?_; refine ALK.nil ?_; try show WP _ _ _ _ _ _)
        show ∃ _, _ ∧ _ ∧ _
        exact ⟨i + 1, ⟨by omega, fe_flat_next (F := fun b : List (List Txn) => b.flatMap fun l : List Txn => l.flatMap txErrs) (show fe ((bs.take i).flatMap fun b : List (List Txn) => b.flatMap fun l : List Txn => l.flatMap txErrs) = 0 from hei) hbi hej⟩, by omega, (Shift.sub [] rfl SubE.a SubH.nil)⟩
    · ((repeat apply WP.seq); refine WP.exit ?_; show WP _ _ _ _ _ _)
      have hil : ¬ i < bs.length := by simpa using h
      rw [List.take_of_length_le (by omega)] at hei
      have hE : seqE bs = 0 := hr0.trans hei
      have hM : mergeB bs = mergeL bs (allB bs) := by unfold mergeB; rw [if_pos hE]
      have hW : whereB bs = whereL bs (allB bs) := by unfold whereB; rw [if_pos hE]
      ((repeat apply WP.seq); apply WP.lreg; refine nA rfl rfl ?_; refine ALK.nil ?_; try show WP _ _ _ _ _ _)
      refine WP.shift (Shift.row0 12 66 3 cT (fun _ => rfl) rfl) ?_
      ((repeat apply WP.seq); apply WP.lreg; refine nA rfl rfl ?_; refine ALK.nil ?_; try show WP _ _ _ _ _ _)
      refine WP.shift (Shift.row0 13 99 3 cW3 (fun _ => rfl) rfl) ?_
      ((repeat apply WP.seq); apply WP.lreg; refine nA rfl rfl ?_; refine ALK.nil ?_; try show WP _ _ _ _ _ _)
      ((repeat apply WP.seq); apply WP.block)
      refine WP.loop (fun e : Nat => ⟨[(14, .im (IV.int e)), (0, .im (batsV bs)), (12, .row 0 (mergeL bs (epochTo bs e)).length), (13, .row 1 (mergeL bs (epochTo bs e)).length)], [(0, .row 66 3 cT (mergeL bs (epochTo bs e))), (1, .row 99 3 cW3 (whereL bs (epochTo bs e)))], 2⟩) (fun e => e ≤ 6) (fun e => 6 - e) 0 (Nat.zero_le _) (Shift.sub [(0, 0), (1, 1)] rfl SubE.a SubH.a) ?_
      rintro e he
      ((repeat apply WP.seq); apply WP.lreg; refine nM rfl rfl ?_; refine ALK.n OpN.cm rfl ?_; refine ALK.nil ?_; try show WP _ _ _ _ _ _)
      ((repeat apply WP.seq); refine WP.cond rfl (fun h => ?_) (fun h => ?_))
      · (refine WP.skip ?_; show WP _ _ _ _ _ _)
        have he6 : e < 6 := by simp at h; omega
        have hel := epochTo_len bs e
        have hel2 : e * bs.length ≤ 6 * 3 := Nat.mul_le_mul (by omega) h3
        ((repeat apply WP.seq); apply WP.block)
        ((repeat apply WP.seq); apply WP.lreg; refine nA rfl rfl ?_; refine ALK.nil ?_; try show WP _ _ _ _ _ _)
        ((repeat apply WP.seq); apply WP.block)
        refine WP.loop (fun i : Nat => ⟨[(15, .im (IV.int i)), (14, .im (IV.int e)), (0, .im (batsV bs)), (12, .row 0 (mergeL bs (epochTo bs e ++ siteTo bs e i)).length), (13, .row 1 (mergeL bs (epochTo bs e ++ siteTo bs e i)).length)], [(0, .row 66 3 cT (mergeL bs (epochTo bs e ++ siteTo bs e i))), (1, .row 99 3 cW3 (whereL bs (epochTo bs e ++ siteTo bs e i)))], 2⟩) (fun i => i ≤ bs.length) (fun i => bs.length - i) 0 (Nat.zero_le _) (by
          have h0 : epochTo bs e = epochTo bs e ++ siteTo bs e 0 := by simp [siteTo]
          rw [← h0]
          exact Shift.sub [(0, 0), (1, 1)] rfl SubE.a SubH.a) ?_
        rintro i hi
        ((repeat apply WP.seq); apply WP.lreg; refine nM rfl rfl ?_; refine nM rfl rfl ?_; refine ALK.n OpN.ln rfl ?_; refine ALK.n OpN.cm rfl ?_; refine ALK.nil ?_; try show WP _ _ _ _ _ _)
        ((repeat apply WP.seq); refine WP.cond rfl (fun h => ?_) (fun h => ?_))
        · (refine WP.skip ?_; show WP _ _ _ _ _ _)
          have hilt : i < bs.length := by simpa using h
          obtain ⟨b, hbi⟩ := get_at hilt
          have hb6 : b.length ≤ 6 := by
            have h1 := maxTo_next hbi
            have h2 := maxTo_mono (bs := bs) (k := i + 1) (m := bs.length) (by omega)
            omega
          have hgd : (bs[i]?.getD []).length = b.length := by rw [hbi]; rfl
          have hsl := siteTo_len bs e i
          have hml := mergeL_bound hl8 (epochTo bs e ++ siteTo bs e i)
          rw [List.length_append] at hml
          obtain ⟨ps, hps⟩ : ∃ ps, ps = epochTo bs e ++ siteTo bs e i := ⟨_, rfl⟩
          rw [← hps] at hml ⊢
          have hwl := whereL_len bs ps
          ((repeat apply WP.seq); apply WP.block)
          ((repeat apply WP.seq); apply WP.lreg; refine nA rfl rfl ?_; refine ALK.nil ?_; try show WP _ _ _ _ _ _)
          by_cases hee : e < b.length
          · obtain ⟨l, hle⟩ := get_at hee
            have hll := hl8 b (List.mem_of_getElem? hbi) l (List.mem_of_getElem? hle)
            have hba : batAt bs (i, e) = l := by unfold batAt; rw [hbi]; simp only [Option.getD_some]; rw [hle]; rfl
            have hps2 : epochTo bs e ++ siteTo bs e (i + 1) = ps ++ [(i, e)] := by rw [siteTo_next, hgd, if_pos hee, hps, List.append_assoc]
            have hM2 : mergeL bs (ps ++ [(i, e)]) = mergeL bs ps ++ l := by unfold mergeL; rw [List.flatMap_append]; simp [hba]
            have hW2 : whereL bs (ps ++ [(i, e)]) = whereL bs ps ++ tagsOf (i, e) l.length := by unfold whereL; rw [List.flatMap_append]; simp [hba]
            ((repeat apply WP.seq); apply WP.block)
            refine WP.loop (fun n : Nat => ⟨[(16, .im (IV.int n)), (15, .im (IV.int i)), (14, .im (IV.int e)), (0, .im (batsV bs)), (12, .row 0 ((mergeL bs ps).length + n)), (13, .row 1 ((mergeL bs ps).length + n))], [(0, .row 66 3 cT (mergeL bs ps ++ l.take n)), (1, .row 99 3 cW3 (whereL bs ps ++ tagsOf (i, e) n))], 2⟩) (fun n => n ≤ l.length) (fun n => l.length - n) 0 (Nat.zero_le _) (Shift.sub [(0, 0), (1, 1)] rfl SubE.a (SubH.cons rfl rfl (ObLe.row (by simp)) (SubH.cons rfl rfl (ObLe.row (by simp [tagsOf])) SubH.nil))) ?_
            rintro n hn
            ((repeat apply WP.seq); apply WP.lreg; refine nM rfl rfl ?_; refine nM rfl rfl ?_; refine nM rfl rfl ?_; refine ALK.n OpN.ix rfl ?_; (first | refine ALK.n (opn_load rfl (eB rfl) rfl) rfl ?_ | refine ALK.r OpR.ld rfl ?_); refine ALK.n OpN.ln rfl ?_; refine ALK.n OpN.cm rfl ?_; refine nM rfl rfl ?_; refine gM rfl rfl rfl rfl ?_; refine gM rfl rfl rfl rfl ?_; refine gM rfl rfl rfl rfl ?_; (first | refine ALK.g (fun hb => opn_index rfl (eC rfl hb) (eC rfl hb) (by omega) (by assumption)) rfl rfl rfl ?_ | refine ALK.g (fun hb => opn_indexRow1 rfl (eC rfl hb) (eC rfl hb) (by omega) (by omega)) rfl rfl rfl ?_ | refine ALK.g (fun hb => opn_indexRow rfl (eC rfl hb) (eC rfl hb) (by omega) (by omega)) rfl rfl rfl ?_ | refine ALK.g (fun hb => opn_indexArr rfl (eC rfl hb) (eC rfl hb) (by omega) (by omega)) rfl rfl rfl ?_ | refine ALK.g (fun hb => opn_indexArrI rfl (eC rfl hb) (eC rfl hb) (by omega) (by omega)) rfl rfl rfl ?_); (first | refine ALK.g (fun hb => opn_load rfl (eC rfl hb) rfl) rfl rfl rfl ?_ | refine ALK.rg (fun hb => opr_load rfl (eC rfl hb) rfl rfl) rfl rfl rfl ?_ | refine ALK.rg (fun hb => opr_loadRow rfl rfl (eC rfl hb) rfl (by assumption) rfl) rfl rfl rfl ?_ | refine ALK.rg (fun hb => opr_loadK0 rfl (eC rfl hb) rfl (by assumption) rfl) rfl rfl rfl ?_ | refine ALK.rg (fun hb => opr_loadK rfl (eC rfl hb) rfl (by assumption) rfl) rfl rfl rfl ?_); refine gM rfl rfl rfl rfl ?_; (first | refine ALK.g (fun hb => opn_index rfl (eC rfl hb) (eC rfl hb) (by omega) (by assumption)) rfl rfl rfl ?_ | refine ALK.g (fun hb => opn_indexRow1 rfl (eC rfl hb) (eC rfl hb) (by omega) (by omega)) rfl rfl rfl ?_ | refine ALK.g (fun hb => opn_indexRow rfl (eC rfl hb) (eC rfl hb) (by omega) (by omega)) rfl rfl rfl ?_ | refine ALK.g (fun hb => opn_indexArr rfl (eC rfl hb) (eC rfl hb) (by omega) (by omega)) rfl rfl rfl ?_ | refine ALK.g (fun hb => opn_indexArrI rfl (eC rfl hb) (eC rfl hb) (by omega) (by omega)) rfl rfl rfl ?_); (first | refine ALK.g (fun hb => opn_load rfl (eC rfl hb) rfl) rfl rfl rfl ?_ | refine ALK.rg (fun hb => opr_load rfl (eC rfl hb) rfl rfl) rfl rfl rfl ?_ | refine ALK.rg (fun hb => opr_loadRow rfl rfl (eC rfl hb) rfl (by assumption) rfl) rfl rfl rfl ?_ | refine ALK.rg (fun hb => opr_loadK0 rfl (eC rfl hb) rfl (by assumption) rfl) rfl rfl rfl ?_ | refine ALK.rg (fun hb => opr_loadK rfl (eC rfl hb) rfl (by assumption) rfl) rfl rfl rfl ?_); (first | refine ALK.g (fun hb => opn_len rfl (eC rfl hb)) rfl rfl rfl ?_ | refine ALK.g (fun hb => opn_lenRow rfl (eC rfl hb)) rfl rfl rfl ?_ | refine ALK.g (fun hb => opn_lenNil rfl (eC rfl hb)) rfl rfl rfl ?_); (first | refine ALK.g (fun hb => opn_cmp (eC rfl hb) (eC rfl hb) rfl) rfl rfl rfl ?_ | refine ALK.g (fun hb => opn_cmpB rfl (eC rfl hb) (eC rfl hb) rfl) rfl rfl rfl ?_); refine ALK.n (opn_pick_and (eB rfl) rfl (fun hb2 => by first | exact hb2 | (rw [hb, hb2]; rfl) | simp_all [gd]) rfl) rfl ?_; refine ALK.nil ?_; try show WP _ _ _ _ _ _)
            ((repeat apply WP.seq); refine WP.cond rfl (fun h => ?_) (fun h => ?_))
            · (refine WP.skip ?_; show WP _ _ _ _ _ _)
              have hnlt : n < l.length := by simp at h; omega
              obtain ⟨t, htn⟩ := get_at hnlt
              have hl1 : (mergeL bs ps ++ l.take n).length + [t].length = (mergeL bs ps).length + (n + 1) := by simp; omega
              have hl2 : (whereL bs ps ++ tagsOf (i, e) n).length + [(⟨i, e, n⟩ : TagT)].length = (mergeL bs ps).length + (n + 1) := by simp [tagsOf, hwl]; omega
              have ht1 : l.take (n + 1) = l.take n ++ [t] := take_push htn
              have hx1 : mergeL bs ps ++ l.take n ++ [t] = mergeL bs ps ++ l.take (n + 1) := by rw [ht1, List.append_assoc]
              have hx2 : whereL bs ps ++ tagsOf (i, e) n ++ [⟨i, e, n⟩] = whereL bs ps ++ tagsOf (i, e) (n + 1) := by rw [tagsOf_next, List.append_assoc]
              ((repeat apply WP.seq); apply WP.block)
              ((repeat apply WP.seq); apply WP.lreg; refine nM rfl rfl ?_; refine nM rfl rfl ?_; refine nM rfl rfl ?_; refine ALK.n OpN.ix rfl ?_; (first | refine ALK.n (opn_load rfl (eB rfl) rfl) rfl ?_ | refine ALK.r OpR.ld rfl ?_); refine nM rfl rfl ?_; refine ALK.n OpN.ix rfl ?_; (first | refine ALK.n (opn_load rfl (eB rfl) rfl) rfl ?_ | refine ALK.r OpR.ld rfl ?_); refine nM rfl rfl ?_; refine ALK.n OpN.ix rfl ?_; (first | refine ALK.n (opn_load rfl (eB rfl) rfl) rfl ?_ | refine ALK.r OpR.ld rfl ?_); refine ALK.n (opn_slit rfl rfl rfl rfl rfl rfl (Pc rfl (eB rfl) Cs.a rfl rfl Parts.nil) rfl) rfl ?_; refine ALK.e (ope_append (b := 72) [t] rfl rfl rfl rfl rfl (eB rfl) (eB rfl) rfl rfl (by simp; omega) rfl) rfl rfl ?_; refine nA rfl rfl ?_; refine ALK.nil ?_; try show WP _ _ _ _ _ _)
              ((repeat apply WP.seq); apply WP.lreg; refine nM rfl rfl ?_; refine nM rfl rfl ?_; refine nM rfl rfl ?_; refine nM rfl rfl ?_; (first | refine ALK.n (opn_build rfl rfl rfl rfl (Pc rfl (eB rfl) Cs.a rfl rfl (Pc rfl (eB rfl) Cs.a rfl rfl (Pc rfl (eB rfl) Cs.a rfl rfl Parts.nil)))) rfl ?_ | refine ALK.n (opn_buildA rfl rfl rfl rfl rfl (Pc rfl (eB rfl) Cs.a rfl rfl (Pc rfl (eB rfl) Cs.a rfl rfl (Pc rfl (eB rfl) Cs.a rfl rfl Parts.nil)))) rfl ?_); refine ALK.n (opn_slit rfl rfl rfl rfl rfl rfl (Pc rfl (eB rfl) Cs.a rfl rfl Parts.nil) rfl) rfl ?_; refine ALK.e (ope_append (b := 24) [(⟨i, e, n⟩ : TagT)] rfl rfl rfl rfl rfl (eB rfl) (eB rfl) rfl rfl (by simp [tagsOf]; omega) rfl) rfl rfl ?_; refine nA rfl rfl ?_; refine ALK.nil ?_; try show WP _ _ _ _ _ _)
              ((repeat apply WP.seq); apply WP.lreg; refine nM rfl rfl ?_; refine ALK.n OpN.ar rfl ?_; refine nA rfl rfl ?_; refine ALK.nil ?_; try show WP _ _ _ _ _ _)
              show ∃ _, _ ∧ _ ∧ _
              exact ⟨n + 1, by omega, by omega, Shift.sub [(0, 2), (1, 3)] rfl SubE.a (SubH.cons rfl rfl (ObLe.row hx1) (SubH.cons rfl rfl (ObLe.row hx2) SubH.nil))⟩
            · ((repeat apply WP.seq); refine WP.exit ?_; show WP _ _ _ _ _ _)
              have hnl : n = l.length := by simp at h; omega
              subst hnl
              ((repeat apply WP.seq); apply WP.lreg; refine nM rfl rfl ?_; refine ALK.n OpN.ar rfl ?_; refine nA rfl rfl ?_; refine ALK.nil ?_; try show WP _ _ _ _ _ _)
              show ∃ _, _ ∧ _ ∧ _
              refine ⟨i + 1, by omega, by omega, ?_⟩
              rw [hps2, hM2, hW2, List.length_append]
              exact Shift.sub [(0, 0), (1, 1)] rfl SubE.a (SubH.cons rfl rfl (ObLe.row (by rw [List.take_length])) (SubH.cons rfl rfl (ObLe.row rfl) SubH.nil))
          · have hps2 : epochTo bs e ++ siteTo bs e (i + 1) = ps := by rw [siteTo_next, hgd, if_neg hee, hps, List.append_nil]
            ((repeat apply WP.seq); apply WP.block)
            refine WP.loop (fun n : Nat => ⟨[(16, .im (IV.int n)), (15, .im (IV.int i)), (14, .im (IV.int e)), (0, .im (batsV bs)), (12, .row 0 (mergeL bs ps).length), (13, .row 1 (mergeL bs ps).length)], [(0, .row 66 3 cT (mergeL bs ps)), (1, .row 99 3 cW3 (whereL bs ps))], 2⟩) (fun n => n = 0) (fun n => 0) 0 rfl (Shift.sub [(0, 0), (1, 1)] rfl SubE.a SubH.a) ?_
            rintro n rfl
            ((repeat apply WP.seq); apply WP.lreg; refine nM rfl rfl ?_; refine nM rfl rfl ?_; refine nM rfl rfl ?_; refine ALK.n OpN.ix rfl ?_; (first | refine ALK.n (opn_load rfl (eB rfl) rfl) rfl ?_ | refine ALK.r OpR.ld rfl ?_); refine ALK.n OpN.ln rfl ?_; refine ALK.n OpN.cm rfl ?_; refine nM rfl rfl ?_; refine ALK.g (s := .im IV.any) (fun hb => absurd hb (by first | (simp [gd]; done) | (simp [gd]; omega) | (simp_all [gd]; done))) rfl rfl rfl ?_; refine ALK.g (s := .im IV.any) (fun hb => absurd hb (by first | (simp [gd]; done) | (simp [gd]; omega) | (simp_all [gd]; done))) rfl rfl rfl ?_; refine ALK.g (s := .im IV.any) (fun hb => absurd hb (by first | (simp [gd]; done) | (simp [gd]; omega) | (simp_all [gd]; done))) rfl rfl rfl ?_; refine ALK.g (s := .im IV.any) (fun hb => absurd hb (by first | (simp [gd]; done) | (simp [gd]; omega) | (simp_all [gd]; done))) rfl rfl rfl ?_; refine ALK.g (s := .im IV.any) (fun hb => absurd hb (by first | (simp [gd]; done) | (simp [gd]; omega) | (simp_all [gd]; done))) rfl rfl rfl ?_; refine ALK.g (s := .im IV.any) (fun hb => absurd hb (by first | (simp [gd]; done) | (simp [gd]; omega) | (simp_all [gd]; done))) rfl rfl rfl ?_; refine ALK.g (s := .im IV.any) (fun hb => absurd hb (by first | (simp [gd]; done) | (simp [gd]; omega) | (simp_all [gd]; done))) rfl rfl rfl ?_; refine ALK.g (s := .im IV.any) (fun hb => absurd hb (by first | (simp [gd]; done) | (simp [gd]; omega) | (simp_all [gd]; done))) rfl rfl rfl ?_; refine ALK.g (s := .im IV.any) (fun hb => absurd hb (by first | (simp [gd]; done) | (simp [gd]; omega) | (simp_all [gd]; done))) rfl rfl rfl ?_; refine ALK.g (s := .im IV.any) (fun hb => absurd hb (by first | (simp [gd]; done) | (simp [gd]; omega) | (simp_all [gd]; done))) rfl rfl rfl ?_; refine ALK.n (opn_pick_no (Ev.of (eB rfl) (ImOf.im (ILe.bool (by simp; omega)))) (eB rfl)) rfl ?_; refine ALK.nil ?_; try show WP _ _ _ _ _ _)
            ((repeat apply WP.seq); refine WP.cond rfl (fun h => ?_) (fun h => ?_))
            · cases h
            · ((repeat apply WP.seq); refine WP.exit ?_; show WP _ _ _ _ _ _)
              ((repeat apply WP.seq); apply WP.lreg; refine nM rfl rfl ?_; refine ALK.n OpN.ar rfl ?_; refine nA rfl rfl ?_; refine ALK.nil ?_; try show WP _ _ _ _ _ _)
              show ∃ _, _ ∧ _ ∧ _
              refine ⟨i + 1, by omega, by omega, ?_⟩
              rw [hps2]
              exact Shift.sub [(0, 0), (1, 1)] rfl SubE.a SubH.a
        · ((repeat apply WP.seq); refine WP.exit ?_; show WP _ _ _ _ _ _)
          have hib : i = bs.length := by simp at h; omega
          subst hib
          rw [← epochTo_next]
          ((repeat apply WP.seq); apply WP.lreg; refine nM rfl rfl ?_; refine ALK.n OpN.ar rfl ?_; refine nA rfl rfl ?_; refine ALK.nil ?_; try show WP _ _ _ _ _ _)
          show ∃ _, _ ∧ _ ∧ _
          exact ⟨e + 1, by omega, by omega, Shift.sub [(0, 0), (1, 1)] rfl SubE.a SubH.a⟩
      · ((repeat apply WP.seq); refine WP.exit ?_; show WP _ _ _ _ _ _)
        have he6 : e = 6 := by simp at h; omega
        subst he6
        refine WP.shift (Shift.frzRow 12 rfl rfl) ?_
        refine WP.shift (Shift.frzRow 13 rfl rfl) ?_
        ((repeat apply WP.seq); apply WP.lreg; refine nM rfl rfl ?_; refine nM rfl rfl ?_; refine nA rfl rfl ?_; refine nA rfl rfl ?_; refine nA rfl rfl ?_; refine ALK.nil ?_; try show WP _ _ _ _ _ _)
        rw [hE, hM, hW]
        ((repeat apply WP.seq); refine WP.ret ?_; first | exact RetOk.one Try.results58 ResV.a | exact RetOk.tup Try.results58 rfl ResVs.a)
end Go.Proofs.Ytjgmbgfcffnanaa
