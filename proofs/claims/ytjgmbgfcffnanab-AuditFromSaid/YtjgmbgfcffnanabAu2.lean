/- The reference's Audit and Reads. -/
import Derived.Test.YtjgmbgfcffnanabAu
namespace Go.Proofs.Ytjgmbgfcffnanab
open Go.RowKit

set_option maxRecDepth 100000 in
set_option maxHeartbeats 1000000 in
theorem AuditOf_fn (s : List Int) (l : List Txn) (st : List Int) (rs : List Res) (hbt : TxsB l) : Fn (Cfg.mk Try.prog (ttAt ttl) ttl_ok.ok mixd) 23 [intsV s, txsV l, intsV st, ressV rs] (IV.tup [IV.int (audN s l st rs), IV.int (audE s l st rs)]) := by
  refine Fn.of_wp _ Try.func23 rfl (by kernel_rfl) Try.ntmps23 rfl ?_
  intro F hD hG
  refine WP.len 1 rfl (fun hl1 => ?_)
  refine WP.len 3 rfl (fun hl3 => ?_)
  ((repeat apply WP.seq); apply WP.lreg; refine nA rfl rfl ?_; refine nA rfl rfl ?_; refine ALK.nil ?_; try show WP _ _ _ _ _ _)
  ((repeat apply WP.seq); apply WP.lreg; refine nM rfl rfl ?_; refine nM rfl rfl ?_; refine ALK.n (opn_call (SerialOf_fn s l hbt) (Evs.cons Ev.a (Evs.cons Ev.a Evs.nil))) rfl ?_; refine nM rfl rfl ?_; refine nX rfl rfl rfl ?_; refine nX rfl rfl rfl ?_; refine nX rfl rfl rfl ?_; refine nA rfl rfl ?_; refine nA rfl rfl ?_; refine nA rfl rfl ?_; refine ALK.nil ?_; try show WP _ _ _ _ _ _)
  ((repeat apply WP.seq); apply WP.lreg; refine nM rfl rfl ?_; refine ALK.n OpN.cm rfl ?_; refine ALK.nil ?_; try show WP _ _ _ _ _ _)
  ((repeat apply WP.seq); refine WP.cond rfl (fun h => ?_) (fun h => ?_))
  · ((repeat apply WP.seq); apply WP.lreg; refine nM rfl rfl ?_; refine nA rfl rfl ?_; refine nA rfl rfl ?_; refine ALK.nil ?_; try show WP _ _ _ _ _ _)
    have hne : ¬ serE s l = 0 := by simpa using h
    have h1 : audE s l st rs = serE s l := by unfold audE; rw [if_neg hne]
    have h2 : audN s l st rs = 0 := by unfold audN; rw [h1, if_neg hne]
    rw [h1, h2]
    ((repeat apply WP.seq); refine WP.ret ?_; first | exact RetOk.one Try.results23 ResV.a | exact RetOk.tup Try.results23 rfl ResVs.a)
  (refine WP.skip ?_; show WP _ _ _ _ _ _)
  have h0 : serE s l = 0 := by simpa using h
  obtain ⟨hs8, hcl⟩ := serE_zero h0
  obtain ⟨hl8, _⟩ := checkTxns_zero hcl
  rw [serL_of h0, serV_of h0]
  have hrl := serR_len s l
  ((repeat apply WP.seq); apply WP.lreg; refine nM rfl rfl ?_; refine ALK.n (opn_call (IsStore_fn st) (Evs.cons Ev.a Evs.nil)) rfl ?_; refine ALK.n (opn_not (eB rfl)) rfl ?_; refine nM rfl rfl ?_; refine gM rfl rfl rfl rfl ?_; (first | refine ALK.g (fun hb => opn_len rfl (eC rfl hb)) rfl rfl rfl ?_ | refine ALK.g (fun hb => opn_lenRow rfl (eC rfl hb)) rfl rfl rfl ?_ | refine ALK.g (fun hb => opn_lenNil rfl (eC rfl hb)) rfl rfl rfl ?_); refine gM rfl rfl rfl rfl ?_; (first | refine ALK.g (fun hb => opn_len rfl (eC rfl hb)) rfl rfl rfl ?_ | refine ALK.g (fun hb => opn_lenRow rfl (eC rfl hb)) rfl rfl rfl ?_ | refine ALK.g (fun hb => opn_lenNil rfl (eC rfl hb)) rfl rfl rfl ?_); (first | refine ALK.g (fun hb => opn_cmp (eC rfl hb) (eC rfl hb) rfl) rfl rfl rfl ?_ | refine ALK.g (fun hb => opn_cmpB rfl (eC rfl hb) (eC rfl hb) rfl) rfl rfl rfl ?_); refine ALK.n (opn_pick_or (eB rfl) rfl rfl (fun hb2 => by first | (rw [hb2]; rfl) | (rw [hb, hb2]; rfl) | simp_all [gd])) rfl ?_; refine ALK.nil ?_; try show WP _ _ _ _ _ _)
  ((repeat apply WP.seq); refine WP.cond rfl (fun h => ?_) (fun h => ?_))
  · ((repeat apply WP.seq); apply WP.lreg; refine nA rfl rfl ?_; refine nA rfl rfl ?_; refine ALK.nil ?_; try show WP _ _ _ _ _ _)
    have h1 : audE s l st rs = 1 := by
      unfold audE
      rw [if_pos h0, if_neg]
      rintro ⟨a, b⟩
      rw [b] at h
      simp [a] at h
    have h2 : audN s l st rs = 0 := by unfold audN; rw [h1]; rfl
    rw [h1, h2]
    ((repeat apply WP.seq); refine WP.ret ?_; first | exact RetOk.one Try.results23 ResV.a | exact RetOk.tup Try.results23 rfl ResVs.a)
  (refine WP.skip ?_; show WP _ _ _ _ _ _)
  have hc : st.length = 8 ∧ rs.length = l.length := by
    simp only [Bool.or_eq_false_iff, Bool.not_eq_false', decide_eq_true_eq, bne_eq_false_iff_eq] at h
    exact ⟨h.1, by omega⟩
  have hE : audE s l st rs = 0 := by unfold audE; rw [if_pos h0, if_pos hc]
  have hN : audN s l st rs = match diffAt (serR s l) rs with
    | some k => (k : Int)
    | none => if serS s l = st then -1 else l.length := by unfold audN; rw [if_pos hE]; rfl
  rw [hE]
  ((repeat apply WP.seq); apply WP.lreg; refine nA rfl rfl ?_; refine ALK.nil ?_; try show WP _ _ _ _ _ _)
  ((repeat apply WP.seq); apply WP.block)
  refine WP.loop (fun k : Nat => ⟨[(13, .im (IV.int k)), (11, .im (ressV (serR s l))), (1, .im (txsV l)), (2, .im (intsV st)), (3, .im (ressV rs)), (10, .im (intsV (serS s l)))], [], 0⟩) (fun k => k ≤ l.length ∧ (serR s l).take k = rs.take k) (fun k => l.length - k) 0 ⟨Nat.zero_le _, rfl⟩ (Shift.sub [] rfl SubE.a SubH.nil) ?_
  rintro k ⟨hk, he⟩
  ((repeat apply WP.seq); apply WP.lreg; refine nM rfl rfl ?_; refine nM rfl rfl ?_; refine ALK.n OpN.ln rfl ?_; refine ALK.n OpN.cm rfl ?_; refine ALK.nil ?_; try show WP _ _ _ _ _ _)
  ((repeat apply WP.seq); refine WP.cond rfl (fun h => ?_) (fun h => ?_))
  · (refine WP.skip ?_; show WP _ _ _ _ _ _)
    have hlt : k < l.length := by simp at h; omega
    obtain ⟨x, hx⟩ := get_at (xs := serR s l) (k := k) (by omega)
    obtain ⟨y, hy⟩ := get_at (xs := rs) (k := k) (by omega)
    have one : ∀ {a : List Res} {z : Res}, a[k]? = some z → (a.take (k + 1)).drop k = [z] := fun {a z} h => by
      obtain ⟨h1, h2⟩ := List.getElem?_eq_some_iff.1 h
      rw [List.drop_take, Nat.add_sub_cancel_left, List.drop_eq_getElem_cons h1, h2]
      rfl
    ((repeat apply WP.seq); apply WP.block)
    ((repeat apply WP.seq); apply WP.ldraw; refine nM rfl rfl ?_; refine nM rfl rfl ?_; refine nM rfl rfl ?_; refine ALK.n OpN.ar rfl ?_; refine ALK.n (opn_slice (l := k) (h := k + 1) rfl (eB rfl) (Bd.some (eB rfl)) (Bd.some (Ev.of (eB rfl) (ImOf.im (ILe.int (by omega))))) (by omega) (by omega)) rfl ?_; refine nM rfl rfl ?_; refine nM rfl rfl ?_; refine nM rfl rfl ?_; refine ALK.n OpN.ar rfl ?_; refine ALK.n (opn_slice (l := k) (h := k + 1) rfl (eB rfl) (Bd.some (eB rfl)) (Bd.some (Ev.of (eB rfl) (ImOf.im (ILe.int (by omega))))) (by omega) (by omega)) rfl ?_; refine ALK.n (opn_call (SameResults_fn _ _) (Evs.cons Ev.a (Evs.cons Ev.a Evs.nil))) rfl ?_; refine ALK.n (opn_not (eB rfl)) rfl ?_; refine ALK.nilD (by kernel_rfl) ?_; try show WP _ _ _ _ _ _)
    rw [one hx, one hy]
    ((repeat apply WP.seq); refine WP.cond rfl (fun h => ?_) (fun h => ?_))
    · ((repeat apply WP.seq); apply WP.lreg; refine nM rfl rfl ?_; refine nA rfl rfl ?_; refine nA rfl rfl ?_; refine ALK.nil ?_; try show WP _ _ _ _ _ _)
      have hd : diffAt (serR s l) rs = some k := diffAt_at he hx hy fun e => by subst e; simp at h
      have hr : audN s l st rs = (k : Int) := by rw [hN, hd]
      rw [hr]
      ((repeat apply WP.seq); refine WP.ret ?_; first | exact RetOk.one Try.results23 ResV.a | exact RetOk.tup Try.results23 rfl ResVs.a)
    (refine WP.skip ?_; show WP _ _ _ _ _ _)
    have hxy : x = y := by simpa using h
    ((repeat apply WP.seq); apply WP.lreg; refine nM rfl rfl ?_; refine ALK.n OpN.ar rfl ?_; refine nA rfl rfl ?_; refine ALK.nil ?_; try show WP _ _ _ _ _ _)
    show ∃ _, _ ∧ _ ∧ _
    exact ⟨k + 1, ⟨by omega, take_eq_next he hx hy hxy⟩, by omega, (Shift.sub [] rfl SubE.a SubH.nil)⟩
  · ((repeat apply WP.seq); refine WP.exit ?_; show WP _ _ _ _ _ _)
    have hall : serR s l = rs := take_eq_all he (by simp at h; omega) (by omega)
    have hd : diffAt (serR s l) rs = none := by rw [hall]; exact diffAt_self _
    ((repeat apply WP.seq); apply WP.lreg; refine nM rfl rfl ?_; refine nM rfl rfl ?_; refine ALK.n (opn_call (SameInts_fn _ _) (Evs.cons Ev.a (Evs.cons Ev.a Evs.nil))) rfl ?_; refine ALK.n (opn_not (eB rfl)) rfl ?_; refine ALK.nil ?_; try show WP _ _ _ _ _ _)
    ((repeat apply WP.seq); refine WP.cond rfl (fun h => ?_) (fun h => ?_))
    · ((repeat apply WP.seq); apply WP.lreg; refine nM rfl rfl ?_; refine ALK.n OpN.ln rfl ?_; refine nA rfl rfl ?_; refine nA rfl rfl ?_; refine ALK.nil ?_; try show WP _ _ _ _ _ _)
      have hn : ¬ serS s l = st := by simpa using h
      have hr : audN s l st rs = (l.length : Int) := by rw [hN, hd]; exact if_neg hn
      rw [hr]
      ((repeat apply WP.seq); refine WP.ret ?_; first | exact RetOk.one Try.results23 ResV.a | exact RetOk.tup Try.results23 rfl ResVs.a)
    (refine WP.skip ?_; show WP _ _ _ _ _ _)
    have hn : serS s l = st := by simpa using h
    have hr : audN s l st rs = -1 := by rw [hN, hd]; exact if_pos hn
    ((repeat apply WP.seq); apply WP.lreg; refine nA rfl rfl ?_; refine nA rfl rfl ?_; refine ALK.nil ?_; try show WP _ _ _ _ _ _)
    rw [hr]
    ((repeat apply WP.seq); refine WP.ret ?_; first | exact RetOk.one Try.results23 ResV.a | exact RetOk.tup Try.results23 rfl ResVs.a)

/- who has set a number last, of the first m -/
def lastW (l : List Txn) (rs : List Res) (key : Int) : Nat → Int
  | 0 => -1
  | m + 1 => match l[m]?, rs[m]? with
    | some t, some r => if (r.done && writesB t key) = true then (m : Int) else lastW l rs key m
    | _, _ => lastW l rs key m
theorem lastW_next {l : List Txn} {rs : List Res} {key : Int} {m : Nat} {t : Txn} {r : Res} (ht : l[m]? = some t) (hr : rs[m]? = some r) : lastW l rs key (m + 1) = if (r.done && writesB t key) = true then (m : Int) else lastW l rs key m := by
  conv => lhs; unfold lastW
  rw [ht, hr]
def rdsE (s : List Int) (l : List Txn) (n : Int) : Int := if serE s l = 0 then (if n < 0 ∨ (l.length : Int) ≤ n then 5 else 0) else serE s l
def rdsL (s : List Int) (l : List Txn) (n : Int) : List Int := if rdsE s l n = 0 then (match l[n.toNat]? with
  | some t => t.reads.map fun key => lastW l (serR s l) key n.toNat
  | none => []) else []
set_option maxRecDepth 100000 in
set_option maxHeartbeats 1000000 in
theorem ReadsOf_fn (s : List Int) (l : List Txn) (n : Int) (hbt : TxsB l) : Fn (Cfg.mk Try.prog (ttAt ttl) ttl_ok.ok mixd) 24 [intsV s, txsV l, IV.int n] (IV.tup [intsV (rdsL s l n), IV.int (rdsE s l n)]) := by
  refine Fn.of_wp _ Try.func24 rfl (by kernel_rfl) Try.ntmps24 rfl ?_
  intro F hD hG
  refine WP.len 1 rfl (fun hl1 => ?_)
  ((repeat apply WP.seq); apply WP.lreg; refine nA rfl rfl ?_; refine nA rfl rfl ?_; refine ALK.nil ?_; try show WP _ _ _ _ _ _)
  ((repeat apply WP.seq); apply WP.lreg; refine nM rfl rfl ?_; refine nM rfl rfl ?_; refine ALK.n (opn_call (SerialOf_fn s l hbt) (Evs.cons Ev.a (Evs.cons Ev.a Evs.nil))) rfl ?_; refine nM rfl rfl ?_; refine nX rfl rfl rfl ?_; refine nX rfl rfl rfl ?_; refine nX rfl rfl rfl ?_; refine nA rfl rfl ?_; refine nA rfl rfl ?_; refine nA rfl rfl ?_; refine ALK.nil ?_; try show WP _ _ _ _ _ _)
  ((repeat apply WP.seq); apply WP.lreg; refine nM rfl rfl ?_; refine ALK.n OpN.cm rfl ?_; refine ALK.nil ?_; try show WP _ _ _ _ _ _)
  ((repeat apply WP.seq); refine WP.cond rfl (fun h => ?_) (fun h => ?_))
  · ((repeat apply WP.seq); apply WP.lreg; refine nM rfl rfl ?_; refine nA rfl rfl ?_; refine nA rfl rfl ?_; refine ALK.nil ?_; try show WP _ _ _ _ _ _)
    have hne : ¬ serE s l = 0 := by simpa using h
    have h1 : rdsE s l n = serE s l := by unfold rdsE; rw [if_neg hne]
    have h2 : rdsL s l n = [] := by unfold rdsL; rw [h1, if_neg hne]
    rw [h1, h2]
    ((repeat apply WP.seq); refine WP.ret ?_; first | exact RetOk.one Try.results24 ResV.a | exact RetOk.tup Try.results24 rfl ResVs.a)
  (refine WP.skip ?_; show WP _ _ _ _ _ _)
  have h0 : serE s l = 0 := by simpa using h
  obtain ⟨hs8, hcl⟩ := serE_zero h0
  obtain ⟨hl8, hall⟩ := checkTxns_zero hcl
  rw [serL_of h0, serV_of h0]
  have hrl := serR_len s l
  ((repeat apply WP.seq); apply WP.lreg; refine nM rfl rfl ?_; refine nM rfl rfl ?_; refine ALK.n OpN.ln rfl ?_; refine ALK.n OpN.ar rfl ?_; refine ALK.n (opn_call (within_fn n 0 ((l.length : Int) - 1)) (Evs.cons Ev.a (Evs.cons Ev.a (Evs.cons Ev.a Evs.nil)))) rfl ?_; refine ALK.n (opn_not (eB rfl)) rfl ?_; refine ALK.nil ?_; try show WP _ _ _ _ _ _)
  ((repeat apply WP.seq); refine WP.cond rfl (fun h => ?_) (fun h => ?_))
  · ((repeat apply WP.seq); apply WP.lreg; refine nA rfl rfl ?_; refine nA rfl rfl ?_; refine ALK.nil ?_; try show WP _ _ _ _ _ _)
    have h1 : rdsE s l n = 5 := by unfold rdsE; rw [if_pos h0, if_pos (by simp at h; omega)]
    have h2 : rdsL s l n = [] := by unfold rdsL; rw [h1]; rfl
    rw [h1, h2]
    ((repeat apply WP.seq); refine WP.ret ?_; first | exact RetOk.one Try.results24 ResV.a | exact RetOk.tup Try.results24 rfl ResVs.a)
  (refine WP.skip ?_; show WP _ _ _ _ _ _)
  have hn0 : 0 ≤ n := by simp at h; omega
  have hn1 : n < l.length := by simp at h; omega
  have hE : rdsE s l n = 0 := by unfold rdsE; rw [if_pos h0, if_neg (by omega)]
  obtain ⟨t, ht⟩ := get_at (xs := l) (k := n.toNat) (by omega)
  obtain ⟨hz1, hz2, hz3, hz4⟩ := (right_parts (hall t (List.mem_of_getElem? ht))).1
  have hL : rdsL s l n = t.reads.map fun key => lastW l (serR s l) key n.toNat := by unfold rdsL; rw [if_pos hE, ht]
  rw [hE, hL]
  ((repeat apply WP.seq); apply WP.lreg; refine nA rfl rfl ?_; refine ALK.nil ?_; try show WP _ _ _ _ _ _)
  refine WP.shift (Shift.row0 11 3 1 cI (fun _ => rfl) rfl) ?_
  ((repeat apply WP.seq); apply WP.lreg; refine nA rfl rfl ?_; refine ALK.nil ?_; try show WP _ _ _ _ _ _)
  ((repeat apply WP.seq); apply WP.block)
  refine WP.loop (fun k : Nat => ⟨[(12, .im (IV.int k)), (1, .im (txsV l)), (2, .im (IV.int n)), (9, .im (ressV (serR s l))), (11, .row 0 k)], [(0, .row 3 1 cI ((t.reads.take k).map fun key => lastW l (serR s l) key n.toNat))], 1⟩) (fun k => k ≤ t.reads.length) (fun k => t.reads.length - k) 0 (Nat.zero_le _) (Shift.sub [(0, 0)] rfl SubE.a SubH.a) ?_
  rintro k hk
  ((repeat apply WP.seq); apply WP.lreg; refine nM rfl rfl ?_; refine nM rfl rfl ?_; refine nM rfl rfl ?_; refine ALK.n OpN.ix rfl ?_; (first | refine ALK.n (opn_field (o := 0) rfl (eB rfl)) rfl ?_ | refine ALK.n (opn_fieldOff (o := 0) rfl (eB rfl)) rfl ?_); (first | refine ALK.n (opn_load rfl (eB rfl) rfl) rfl ?_ | refine ALK.r OpR.ld rfl ?_); refine ALK.n OpN.ln rfl ?_; refine ALK.n OpN.cm rfl ?_; refine ALK.nil ?_; try show WP _ _ _ _ _ _)
  ((repeat apply WP.seq); refine WP.cond rfl (fun h => ?_) (fun h => ?_))
  · (refine WP.skip ?_; show WP _ _ _ _ _ _)
    have hlt : k < t.reads.length := by simpa using h
    obtain ⟨key, hkey⟩ := get_at hlt
    ((repeat apply WP.seq); apply WP.block)
    ((repeat apply WP.seq); apply WP.lreg; refine nA rfl rfl ?_; refine ALK.nil ?_; try show WP _ _ _ _ _ _)
    ((repeat apply WP.seq); apply WP.lreg; refine nA rfl rfl ?_; refine ALK.nil ?_; try show WP _ _ _ _ _ _)
    ((repeat apply WP.seq); apply WP.block)
    refine WP.loop (fun m : Nat => ⟨[(14, .im (IV.int m)), (13, .im (IV.int (lastW l (serR s l) key m))), (12, .im (IV.int k)), (1, .im (txsV l)), (2, .im (IV.int n)), (9, .im (ressV (serR s l))), (11, .row 0 k)], [(0, .row 3 1 cI ((t.reads.take k).map fun key => lastW l (serR s l) key n.toNat))], 1⟩) (fun m => m ≤ n.toNat) (fun m => n.toNat - m) 0 (Nat.zero_le _) (Shift.sub [(0, 0)] rfl SubE.a SubH.a) ?_
    rintro m hm
    ((repeat apply WP.seq); apply WP.lreg; refine nM rfl rfl ?_; refine nM rfl rfl ?_; refine ALK.n OpN.cm rfl ?_; refine ALK.nil ?_; try show WP _ _ _ _ _ _)
    ((repeat apply WP.seq); refine WP.cond rfl (fun h => ?_) (fun h => ?_))
    · (refine WP.skip ?_; show WP _ _ _ _ _ _)
      have hmn : m < n.toNat := by simp at h; omega
      obtain ⟨u, hu⟩ := get_at (xs := l) (k := m) (by omega)
      obtain ⟨r, hr⟩ := get_at (xs := serR s l) (k := m) (by omega)
      have hnx := lastW_next (key := key) hu hr
      ((repeat apply WP.seq); apply WP.block)
      ((repeat apply WP.seq); apply WP.ldraw; refine nM rfl rfl ?_; refine nM rfl rfl ?_; refine ALK.n OpN.ix rfl ?_; (first | refine ALK.n (opn_field (o := 0) rfl (eB rfl)) rfl ?_ | refine ALK.n (opn_fieldOff (o := 0) rfl (eB rfl)) rfl ?_); (first | refine ALK.n (opn_load rfl (eB rfl) rfl) rfl ?_ | refine ALK.r OpR.ld rfl ?_); refine nM rfl rfl ?_; refine gM rfl rfl rfl rfl ?_; refine gM rfl rfl rfl rfl ?_; (first | refine ALK.g (fun hb => opn_index rfl (eC rfl hb) (eC rfl hb) (by omega) (by assumption)) rfl rfl rfl ?_ | refine ALK.g (fun hb => opn_indexRow1 rfl (eC rfl hb) (eC rfl hb) (by omega) (by omega)) rfl rfl rfl ?_ | refine ALK.g (fun hb => opn_indexRow rfl (eC rfl hb) (eC rfl hb) (by omega) (by omega)) rfl rfl rfl ?_ | refine ALK.g (fun hb => opn_indexArr rfl (eC rfl hb) (eC rfl hb) (by omega) (by omega)) rfl rfl rfl ?_ | refine ALK.g (fun hb => opn_indexArrI rfl (eC rfl hb) (eC rfl hb) (by omega) (by omega)) rfl rfl rfl ?_); (first | refine ALK.g (fun hb => opn_load rfl (eC rfl hb) rfl) rfl rfl rfl ?_ | refine ALK.rg (fun hb => opr_load rfl (eC rfl hb) rfl rfl) rfl rfl rfl ?_ | refine ALK.rg (fun hb => opr_loadRow rfl rfl (eC rfl hb) rfl (by assumption) rfl) rfl rfl rfl ?_ | refine ALK.rg (fun hb => opr_loadK0 rfl (eC rfl hb) rfl (by assumption) rfl) rfl rfl rfl ?_ | refine ALK.rg (fun hb => opr_loadK rfl (eC rfl hb) rfl (by assumption) rfl) rfl rfl rfl ?_); refine gM rfl rfl rfl rfl ?_; refine gM rfl rfl rfl rfl ?_; (first | refine ALK.g (fun hb => opn_index rfl (eC rfl hb) (eC rfl hb) (by omega) (by assumption)) rfl rfl rfl ?_ | refine ALK.g (fun hb => opn_indexRow1 rfl (eC rfl hb) (eC rfl hb) (by omega) (by omega)) rfl rfl rfl ?_ | refine ALK.g (fun hb => opn_indexRow rfl (eC rfl hb) (eC rfl hb) (by omega) (by omega)) rfl rfl rfl ?_ | refine ALK.g (fun hb => opn_indexArr rfl (eC rfl hb) (eC rfl hb) (by omega) (by omega)) rfl rfl rfl ?_ | refine ALK.g (fun hb => opn_indexArrI rfl (eC rfl hb) (eC rfl hb) (by omega) (by omega)) rfl rfl rfl ?_); (first | refine ALK.g (fun hb => opn_field (o := 0) rfl (eC rfl hb)) rfl rfl rfl ?_ | refine ALK.g (fun hb => opn_fieldOff (o := 0) rfl (eC rfl hb)) rfl rfl rfl ?_); (first | refine ALK.g (fun hb => opn_load rfl (eC rfl hb) rfl) rfl rfl rfl ?_ | refine ALK.rg (fun hb => opr_load rfl (eC rfl hb) rfl rfl) rfl rfl rfl ?_ | refine ALK.rg (fun hb => opr_loadRow rfl rfl (eC rfl hb) rfl (by assumption) rfl) rfl rfl rfl ?_ | refine ALK.rg (fun hb => opr_loadK0 rfl (eC rfl hb) rfl (by assumption) rfl) rfl rfl rfl ?_ | refine ALK.rg (fun hb => opr_loadK rfl (eC rfl hb) rfl (by assumption) rfl) rfl rfl rfl ?_); refine gM rfl rfl rfl rfl ?_; (first | refine ALK.g (fun hb => opn_index rfl (eC rfl hb) (eC rfl hb) (by omega) (by assumption)) rfl rfl rfl ?_ | refine ALK.g (fun hb => opn_indexRow1 rfl (eC rfl hb) (eC rfl hb) (by omega) (by omega)) rfl rfl rfl ?_ | refine ALK.g (fun hb => opn_indexRow rfl (eC rfl hb) (eC rfl hb) (by omega) (by omega)) rfl rfl rfl ?_ | refine ALK.g (fun hb => opn_indexArr rfl (eC rfl hb) (eC rfl hb) (by omega) (by omega)) rfl rfl rfl ?_ | refine ALK.g (fun hb => opn_indexArrI rfl (eC rfl hb) (eC rfl hb) (by omega) (by omega)) rfl rfl rfl ?_); (first | refine ALK.g (fun hb => opn_load rfl (eC rfl hb) rfl) rfl rfl rfl ?_ | refine ALK.rg (fun hb => opr_load rfl (eC rfl hb) rfl rfl) rfl rfl rfl ?_ | refine ALK.rg (fun hb => opr_loadRow rfl rfl (eC rfl hb) rfl (by assumption) rfl) rfl rfl rfl ?_ | refine ALK.rg (fun hb => opr_loadK0 rfl (eC rfl hb) rfl (by assumption) rfl) rfl rfl rfl ?_ | refine ALK.rg (fun hb => opr_loadK rfl (eC rfl hb) rfl (by assumption) rfl) rfl rfl rfl ?_); refine ALK.g (fun hb => opn_call (ref_writes_fn _ _) (Evs.cons Ev.a (Evs.cons Ev.a Evs.nil))) rfl rfl rfl ?_; refine ALK.n (opn_pick_and (eB rfl) rfl (fun hb2 => by first | exact hb2 | (rw [hb, hb2]; rfl) | simp_all [gd]) rfl) rfl ?_; refine ALK.nilD (by kernel_rfl) ?_; try show WP _ _ _ _ _ _)
      ((repeat apply WP.seq); refine WP.cond rfl (fun h => ?_) (fun h => ?_))
      · rw [if_pos h] at hnx
        ((repeat apply WP.seq); apply WP.lreg; refine nM rfl rfl ?_; refine nA rfl rfl ?_; refine ALK.nil ?_; try show WP _ _ _ _ _ _)
        ((repeat apply WP.seq); apply WP.lreg; refine nM rfl rfl ?_; refine ALK.n OpN.ar rfl ?_; refine nA rfl rfl ?_; refine ALK.nil ?_; try show WP _ _ _ _ _ _)
        show ∃ _, _ ∧ _ ∧ _
        exact ⟨m + 1, by omega, by omega, (Shift.sub [(0, 0)] rfl SubE.a SubH.a)⟩
      · rw [if_neg (by rw [h]; simp)] at hnx
        (refine WP.skip ?_; show WP _ _ _ _ _ _)
        ((repeat apply WP.seq); apply WP.lreg; refine nM rfl rfl ?_; refine ALK.n OpN.ar rfl ?_; refine nA rfl rfl ?_; refine ALK.nil ?_; try show WP _ _ _ _ _ _)
        show ∃ _, _ ∧ _ ∧ _
        exact ⟨m + 1, by omega, by omega, (Shift.sub [(0, 0)] rfl SubE.a SubH.a)⟩
    · ((repeat apply WP.seq); refine WP.exit ?_; show WP _ _ _ _ _ _)
      have hmn : m = n.toNat := by simp at h; omega
      subst hmn
      have hx : (t.reads.take (k + 1)).map (fun key => lastW l (serR s l) key n.toNat) = (t.reads.take k).map (fun key => lastW l (serR s l) key n.toNat) ++ [lastW l (serR s l) key n.toNat] := by rw [take_snoc hkey, List.map_append]; rfl
      have hl1 : ((t.reads.take k).map fun key => lastW l (serR s l) key n.toNat).length + [lastW l (serR s l) key n.toNat].length = k + 1 := by simp; omega
      ((repeat apply WP.seq); apply WP.lreg; refine nM rfl rfl ?_; refine nM rfl rfl ?_; refine ALK.n (opn_slit rfl rfl rfl rfl rfl rfl (Pc rfl (eB rfl) Cs.a rfl rfl Parts.nil) rfl) rfl ?_; refine ALK.e (ope_append (b := 8) [lastW l (serR s l) key n.toNat] rfl rfl rfl rfl rfl (eB rfl) (eB rfl) rfl rfl (by simp; omega) rfl) rfl rfl ?_; refine nA rfl rfl ?_; refine ALK.nil ?_; try show WP _ _ _ _ _ _)
      ((repeat apply WP.seq); apply WP.lreg; refine nM rfl rfl ?_; refine ALK.n OpN.ar rfl ?_; refine nA rfl rfl ?_; refine ALK.nil ?_; try show WP _ _ _ _ _ _)
      show ∃ _, _ ∧ _ ∧ _
      exact ⟨k + 1, by omega, by omega, Shift.sub [(0, 1)] rfl SubE.a (SubH.cons rfl rfl (ObLe.row hx.symm) SubH.nil)⟩
  · ((repeat apply WP.seq); refine WP.exit ?_; show WP _ _ _ _ _ _)
    have hkl : k = t.reads.length := by simp at h; omega
    subst hkl
    rw [List.take_length]
    refine WP.shift (Shift.frzRow 11 rfl rfl) ?_
    ((repeat apply WP.seq); apply WP.lreg; refine nM rfl rfl ?_; refine nA rfl rfl ?_; refine nA rfl rfl ?_; refine ALK.nil ?_; try show WP _ _ _ _ _ _)
    ((repeat apply WP.seq); refine WP.ret ?_; first | exact RetOk.one Try.results24 ResV.a | exact RetOk.tup Try.results24 rfl ResVs.a)
end Go.Proofs.Ytjgmbgfcffnanab
