/- audit.Reads: a map of who has set what last. -/
import Derived.Test.YtjgmbgfcffnanacAu2
import Derived.Test.YtjgmbgfcffnanacMp
namespace Go.Proofs.Ytjgmbgfcffnanac
open Go.RowKit

theorem lastW_bound {l : List Txn} {rs : List Res} {key : Int} : ∀ m : Nat, -1 ≤ lastW l rs key m ∧ lastW l rs key m < m
  | 0 => ⟨Int.le_refl _, by show (-1 : Int) < 0; omega⟩
  | m + 1 => by
    have ih := lastW_bound (l := l) (rs := rs) (key := key) m
    unfold lastW
    split
    · split <;> constructor <;> push_cast <;> omega
    · constructor <;> push_cast <;> omega
def mapW (l : List Txn) (rs : List Res) (m : Nat) : Int → Int := fun x => lastW l rs x m + 1
def mapK (l : List Txn) (rs : List Res) (t : Txn) (m j : Nat) : Int → Int := fun x => if x ∈ (keysOf t).take j then (m : Int) + 1 else lastW l rs x m + 1
abbrev mapO (n : Nat) (f : Int → Int) : HObj := .obj (mapI (Cfg.mk Try.prog (ttAt ttl) ttl_ok.ok mixd) 3 3 n f)
theorem mapK_next {l : List Txn} {rs : List Res} {t : Txn} {m j : Nat} {key : Int} (hk : (keysOf t)[j]? = some key) : upI (mapK l rs t m j) key (m + 1) = mapK l rs t m (j + 1) := by
  funext x
  unfold upI mapK
  rw [take_snoc hk]
  by_cases hx : x = key
  · subst hx; simp
  · simp [hx]
theorem mapK_zero {l : List Txn} {rs : List Res} {t : Txn} {m : Nat} : mapK l rs t m 0 = mapW l rs m := by funext x; simp [mapK, mapW]
theorem mapK_all {l : List Txn} {rs : List Res} {t : Txn} {m : Nat} {r : Res} (ht : l[m]? = some t) (hr : rs[m]? = some r) (hd : r.done = true) : mapK l rs t m (keysOf t).length = mapW l rs (m + 1) := by
  funext x
  unfold mapK mapW
  rw [lastW_next ht hr, hd, List.take_length, Bool.true_and]
  by_cases hx : x ∈ keysOf t
  · rw [if_pos hx, if_pos (writesB_iff.2 hx)]
  · rw [if_neg hx, if_neg (fun h => hx (writesB_iff.1 h))]
theorem mapW_idle {l : List Txn} {rs : List Res} {t : Txn} {m : Nat} {r : Res} (ht : l[m]? = some t) (hr : rs[m]? = some r) (hd : r.done = false) : mapW l rs (m + 1) = mapW l rs m := by
  funext x
  unfold mapW
  rw [lastW_next ht hr, hd, Bool.false_and, if_neg (by simp)]

set_option maxRecDepth 100000 in
set_option maxHeartbeats 1000000 in
theorem Reads_fn (s : List Int) (l : List Txn) (n : Int) (hbt : TxsB l) : Fn (Cfg.mk Try.prog (ttAt ttl) ttl_ok.ok mixd) 82 [intsV s, txsV l, IV.int n] (IV.tup [intsV (rdsL s l n), IV.int (rdsE s l n)]) := by
  refine Fn.of_wp _ Try.func82 rfl (by kernel_rfl) Try.ntmps82 rfl ?_
  intro F hD hG
  refine WP.len 1 rfl (fun hl1 => ?_)
  ((repeat apply WP.seq); apply WP.lreg; refine nA rfl rfl ?_; refine nA rfl rfl ?_; refine ALK.nil ?_; try show WP _ _ _ _ _ _)
  ((repeat apply WP.seq); apply WP.lreg; refine nM rfl rfl ?_; refine nM rfl rfl ?_; refine ALK.n (opn_call (store_Serial_fn s l hbt) (Evs.cons Ev.a (Evs.cons Ev.a Evs.nil))) rfl ?_; refine nM rfl rfl ?_; refine nX rfl rfl rfl ?_; refine nX rfl rfl rfl ?_; refine nX rfl rfl rfl ?_; refine nA rfl rfl ?_; refine nA rfl rfl ?_; refine nA rfl rfl ?_; refine ALK.nil ?_; try show WP _ _ _ _ _ _)
  ((repeat apply WP.seq); apply WP.lreg; refine nM rfl rfl ?_; refine ALK.n OpN.cm rfl ?_; refine ALK.nil ?_; try show WP _ _ _ _ _ _)
  ((repeat apply WP.seq); refine WP.cond rfl (fun h => ?_) (fun h => ?_))
  · ((repeat apply WP.seq); apply WP.lreg; refine nM rfl rfl ?_; refine nA rfl rfl ?_; refine nA rfl rfl ?_; refine ALK.nil ?_; try show WP _ _ _ _ _ _)
    have hne : ¬ serE s l = 0 := by simpa using h
    have h1 : rdsE s l n = serE s l := by unfold rdsE; rw [if_neg hne]
    have h2 : rdsL s l n = [] := by unfold rdsL; rw [h1, if_neg hne]
    rw [h1, h2]
    ((repeat apply WP.seq); refine WP.ret ?_; first | exact RetOk.one Try.results82 ResV.a | exact RetOk.tup Try.results82 rfl ResVs.a)
  (refine WP.skip ?_; show WP _ _ _ _ _ _)
  have h0 : serE s l = 0 := by simpa using h
  obtain ⟨hs8, hcl⟩ := serE_zero h0
  obtain ⟨hl8, hall⟩ := checkTxns_zero hcl
  rw [serL_of h0, serV_of h0]
  have hrl := serR_len s l
  ((repeat apply WP.seq); apply WP.lreg; refine nM rfl rfl ?_; refine ALK.n OpN.cm rfl ?_; refine nM rfl rfl ?_; refine gM rfl rfl rfl rfl ?_; refine gM rfl rfl rfl rfl ?_; (first | refine ALK.g (fun hb => opn_len rfl (eC rfl hb)) rfl rfl rfl ?_ | refine ALK.g (fun hb => opn_lenRow rfl (eC rfl hb)) rfl rfl rfl ?_ | refine ALK.g (fun hb => opn_lenNil rfl (eC rfl hb)) rfl rfl rfl ?_); (first | refine ALK.g (fun hb => opn_cmp (eC rfl hb) (eC rfl hb) rfl) rfl rfl rfl ?_ | refine ALK.g (fun hb => opn_cmpB rfl (eC rfl hb) (eC rfl hb) rfl) rfl rfl rfl ?_); refine ALK.n (opn_pick_or (eB rfl) rfl rfl (fun hb2 => by first | (rw [hb2]; rfl) | (rw [hb, hb2]; rfl) | simp_all [gd])) rfl ?_; refine ALK.nil ?_; try show WP _ _ _ _ _ _)
  ((repeat apply WP.seq); refine WP.cond rfl (fun h => ?_) (fun h => ?_))
  · ((repeat apply WP.seq); apply WP.lreg; refine nA rfl rfl ?_; refine nA rfl rfl ?_; refine ALK.nil ?_; try show WP _ _ _ _ _ _)
    have h1 : rdsE s l n = 5 := by unfold rdsE; rw [if_pos h0, if_pos (by simp at h; omega)]
    have h2 : rdsL s l n = [] := by unfold rdsL; rw [h1]; rfl
    rw [h1, h2]
    ((repeat apply WP.seq); refine WP.ret ?_; first | exact RetOk.one Try.results82 ResV.a | exact RetOk.tup Try.results82 rfl ResVs.a)
  (refine WP.skip ?_; show WP _ _ _ _ _ _)
  have hn0 : 0 ≤ n := by simp at h; omega
  have hn1 : n < l.length := by simp at h; omega
  have hE : rdsE s l n = 0 := by unfold rdsE; rw [if_pos h0, if_neg (by omega)]
  obtain ⟨t, ht⟩ := get_at (xs := l) (k := n.toNat) (by omega)
  have hok := hall t (List.mem_of_getElem? ht)
  obtain ⟨hz1, hz2, hz3, hz4⟩ := (right_parts hok).1
  obtain ⟨hk1, hk2⟩ := right_keys hok
  have hL : rdsL s l n = t.reads.map fun key => lastW l (serR s l) key n.toNat := by unfold rdsL; rw [if_pos hE, ht]
  rw [hE, hL]
  ((repeat apply WP.seq); apply WP.lreg; refine ALK.a (opa_makeMap (k := 3) (e := 3)) rfl ?_; refine nA rfl rfl ?_; refine ALK.nil ?_; try show WP _ _ _ _ _ _)
  ((repeat apply WP.seq); apply WP.lreg; refine nM rfl rfl ?_; refine nM rfl rfl ?_; refine ALK.n (opn_slice (l := 0) (h := n.toNat) rfl (eB rfl) Bd.none (Bd.some (Ev.of (eB rfl) (ImOf.im (ILe.int (by omega))))) (by omega) (by omega)) rfl ?_; refine ALK.n OpN.ln rfl ?_; refine nM rfl rfl ?_; refine ALK.nil ?_; try show WP _ _ _ _ _ _)
  rw [List.drop_zero]
  ((repeat apply WP.seq); apply WP.block)
  refine WP.loop (fun c : Nat × Nat => ⟨[(42, .im (IV.int c.1)), (40, .im (txsV (l.take n.toNat))), (41, .im (IV.int (l.take n.toNat).length)), (1, .im (txsV l)), (2, .im (IV.int n)), (9, .im (ressV (serR s l))), (11, .hd 0)], [(0, mapO c.2 (mapW l (serR s l) c.1))], 1⟩) (fun c => c.1 ≤ n.toNat ∧ c.2 ≤ c.1 * 3) (fun c => n.toNat - c.1) (0, 0) ⟨Nat.zero_le _, Nat.zero_le _⟩ (Shift.sub [(0, 0)] rfl SubE.a (SubH.cons rfl rfl (ObLe.obj (fun o h => h)) SubH.nil)) ?_
  rintro ⟨m, c⟩ ⟨hm, hc⟩
  simp only at hm hc
  have htl : (l.take n.toNat).length = n.toNat := by rw [List.length_take]; omega
  ((repeat apply WP.seq); apply WP.lreg; refine ALK.n OpN.cm rfl ?_; refine ALK.nil ?_; try show WP _ _ _ _ _ _)
  ((repeat apply WP.seq); refine WP.cond rfl (fun h => ?_) (fun h => ?_))
  · (refine WP.skip ?_; show WP _ _ _ _ _ _)
    have hmn : m < n.toNat := by simp at h; omega
    obtain ⟨u, hu⟩ := get_at (xs := l) (k := m) (by omega)
    obtain ⟨r, hr⟩ := get_at (xs := serR s l) (k := m) (by omega)
    have hu2 : (l.take n.toNat)[m]? = some u := by rw [List.getElem?_take, if_pos hmn]; exact hu
    have huok := hall u (List.mem_of_getElem? hu)
    have hub := hbt u (List.mem_of_getElem? hu)
    obtain ⟨_, huk⟩ := right_keys huok
    obtain ⟨_, _, _, hu3⟩ := (right_parts huok).1
    have hkl : (keysOf u).length = u.sets.length := by simp [keysOf]
    ((repeat apply WP.seq); apply WP.block)
    ((repeat apply WP.seq); apply WP.lreg; refine nM rfl rfl ?_; refine ALK.n OpN.ix rfl ?_; (first | refine ALK.n (opn_load rfl (eB rfl) rfl) rfl ?_ | refine ALK.r OpR.ld rfl ?_); refine ALK.a (opa_alloc rfl rfl) rfl ?_; refine nA rfl rfl ?_; (first | refine ALK.e (ope_store rfl (eB rfl) (eB rfl) Cs.a rfl rfl rfl) rfl rfl ?_ | refine ALK.e (ope_storeRow rfl rfl (eB rfl) (eB rfl) (oc_val rfl) rfl rfl (by assumption)) rfl rfl ?_); refine ALK.nil ?_; try show WP _ _ _ _ _ _)
    refine WP.shift (Shift.frzBlk 13 rfl rfl rfl) ?_
    ((repeat apply WP.seq); apply WP.lreg; refine nM rfl rfl ?_; refine nM rfl rfl ?_; refine ALK.n OpN.ix rfl ?_; (first | refine ALK.n (opn_field (o := 0) rfl (eB rfl)) rfl ?_ | refine ALK.n (opn_fieldOff (o := 0) rfl (eB rfl)) rfl ?_); (first | refine ALK.n (opn_load rfl (eB rfl) rfl) rfl ?_ | refine ALK.r OpR.ld rfl ?_); refine ALK.n (opn_not (eB rfl)) rfl ?_; refine ALK.nil ?_; try show WP _ _ _ _ _ _)
    ((repeat apply WP.seq); refine WP.cond rfl (fun h => ?_) (fun h => ?_))
    · ((repeat apply WP.seq); refine WP.exit ?_; show WP _ _ _ _ _ _)
      have hd : r.done = false := by simpa using h
      have hx := mapW_idle hu hr hd
      ((repeat apply WP.seq); apply WP.lreg; refine ALK.n OpN.ar rfl ?_; refine nM rfl rfl ?_; refine ALK.nil ?_; try show WP _ _ _ _ _ _)
      show ∃ _, _ ∧ _ ∧ _
      refine ⟨(m + 1, c), ⟨by simp only; omega, by simp only; omega⟩, by simp only; omega, Shift.sub [(0, 0)] rfl SubE.a (SubH.cons rfl rfl (ObLe.obj (fun o h => by simp only [hx]; exact h)) SubH.nil)⟩
    (refine WP.skip ?_; show WP _ _ _ _ _ _)
    have hd : r.done = true := by simpa using h
    ((repeat apply WP.seq); apply WP.lreg; (first | refine ALK.n (opn_load rfl (eB rfl) rfl) rfl ?_ | refine ALK.r OpR.ld rfl ?_); refine ALK.n (opn_call (txn_Keys_fn _ (by assumption)) (Evs.cons Ev.a Evs.nil)) rfl ?_; refine ALK.n OpN.ln rfl ?_; refine nM rfl rfl ?_; refine ALK.nil ?_; try show WP _ _ _ _ _ _)
    ((repeat apply WP.seq); apply WP.block)
    refine WP.loop (fun j : Nat => ⟨[(56, .im (IV.int j)), (54, .im (intsV (keysOf u))), (55, .im (IV.int (keysOf u).length)), (12, .im (IV.int m)), (42, .im (IV.int m)), (40, .im (txsV (l.take n.toNat))), (41, .im (IV.int (l.take n.toNat).length)), (1, .im (txsV l)), (2, .im (IV.int n)), (9, .im (ressV (serR s l))), (11, .hd 0)], [(0, mapO (c + j) (mapK l (serR s l) u m j))], 1⟩) (fun j => j ≤ (keysOf u).length) (fun j => (keysOf u).length - j) 0 (Nat.zero_le _) (Shift.sub [(0, 0)] rfl SubE.a (SubH.cons rfl rfl (ObLe.obj (fun o h => by rw [mapK_zero]; exact h)) SubH.nil)) ?_
    rintro j hj
    ((repeat apply WP.seq); apply WP.lreg; refine ALK.n OpN.cm rfl ?_; refine ALK.nil ?_; try show WP _ _ _ _ _ _)
    ((repeat apply WP.seq); refine WP.cond rfl (fun h => ?_) (fun h => ?_))
    · (refine WP.skip ?_; show WP _ _ _ _ _ _)
      have hjl : j < (keysOf u).length := by simpa using h
      obtain ⟨key, hkey⟩ := get_at hjl
      obtain ⟨ky0, ky8⟩ := huk key (List.mem_of_getElem? hkey)
      have hx := mapK_next (l := l) (rs := serR s l) (m := m) hkey
      ((repeat apply WP.seq); apply WP.block)
      ((repeat apply WP.seq); apply WP.lreg; refine ALK.n OpN.ix rfl ?_; (first | refine ALK.n (opn_load rfl (eB rfl) rfl) rfl ?_ | refine ALK.r OpR.ld rfl ?_); refine nA rfl rfl ?_; refine ALK.nil ?_; try show WP _ _ _ _ _ _)
      ((repeat apply WP.seq); apply WP.lreg; refine nM rfl rfl ?_; refine nM rfl rfl ?_; refine nM rfl rfl ?_; refine ALK.n OpN.ar rfl ?_; refine ALK.e (ope_mapUpdate Try.underlying170 Try.underlying3 Try.underlying3 (eB rfl) (eB rfl) (eB rfl) rfl (by simp only [maxLen]; omega) (by omega) (by omega) (by omega) (by omega)) rfl rfl ?_; refine ALK.nil ?_; try show WP _ _ _ _ _ _)
      ((repeat apply WP.seq); apply WP.lreg; refine ALK.n OpN.ar rfl ?_; refine nM rfl rfl ?_; refine ALK.nil ?_; try show WP _ _ _ _ _ _)
      show ∃ _, _ ∧ _ ∧ _
      exact ⟨j + 1, by omega, by omega, Shift.sub [(0, 0)] rfl SubE.a (SubH.cons rfl rfl (ObLe.obj (fun o h => by rw [← hx]; exact h)) SubH.nil)⟩
    · ((repeat apply WP.seq); refine WP.exit ?_; show WP _ _ _ _ _ _)
      have hjl : j = (keysOf u).length := by simp at h; omega
      subst hjl
      have hx := mapK_all hu hr hd
      ((repeat apply WP.seq); apply WP.lreg; refine ALK.n OpN.ar rfl ?_; refine nM rfl rfl ?_; refine ALK.nil ?_; try show WP _ _ _ _ _ _)
      show ∃ _, _ ∧ _ ∧ _
      exact ⟨(m + 1, c + (keysOf u).length), ⟨by simp only; omega, by simp only; omega⟩, by simp only; omega, Shift.sub [(0, 0)] rfl SubE.a (SubH.cons rfl rfl (ObLe.obj (fun o h => by simp only [← hx]; exact h)) SubH.nil)⟩
  · ((repeat apply WP.seq); refine WP.exit ?_; show WP _ _ _ _ _ _)
    have hmn : m = n.toNat := by simp at h; omega
    subst hmn
    ((repeat apply WP.seq); apply WP.lreg; refine nA rfl rfl ?_; refine ALK.nil ?_; try show WP _ _ _ _ _ _)
    refine WP.shift (Shift.row0 16 3 1 cI (fun _ => rfl) rfl) ?_
    ((repeat apply WP.seq); apply WP.lreg; refine nM rfl rfl ?_; refine nM rfl rfl ?_; refine ALK.n OpN.ix rfl ?_; (first | refine ALK.n (opn_field (o := 0) rfl (eB rfl)) rfl ?_ | refine ALK.n (opn_fieldOff (o := 0) rfl (eB rfl)) rfl ?_); (first | refine ALK.n (opn_load rfl (eB rfl) rfl) rfl ?_ | refine ALK.r OpR.ld rfl ?_); refine ALK.n OpN.ln rfl ?_; refine nM rfl rfl ?_; refine ALK.nil ?_; try show WP _ _ _ _ _ _)
    ((repeat apply WP.seq); apply WP.block)
    refine WP.loop (fun k : Nat => ⟨[(72, .im (IV.int k)), (70, .im (intsV t.reads)), (71, .im (IV.int t.reads.length)), (11, .hd 0), (16, .row 1 k)], [(0, mapO c (mapW l (serR s l) n.toNat)), (1, .row 3 1 cI ((t.reads.take k).map fun key => lastW l (serR s l) key n.toNat))], 2⟩) (fun k => k ≤ t.reads.length) (fun k => t.reads.length - k) 0 (Nat.zero_le _) (Shift.sub [(0, 0), (1, 1)] rfl SubE.a (SubH.cons rfl rfl (ObLe.obj (fun o h => h)) (SubH.cons rfl rfl (ObLe.row rfl) SubH.nil))) ?_
    rintro k hk
    ((repeat apply WP.seq); apply WP.lreg; refine ALK.n OpN.cm rfl ?_; refine ALK.nil ?_; try show WP _ _ _ _ _ _)
    ((repeat apply WP.seq); refine WP.cond rfl (fun h => ?_) (fun h => ?_))
    · (refine WP.skip ?_; show WP _ _ _ _ _ _)
      have hlt : k < t.reads.length := by simpa using h
      obtain ⟨key, hkey⟩ := get_at hlt
      obtain ⟨ky0, ky8⟩ := hk1 key (List.mem_of_getElem? hkey)
      have hlb := lastW_bound (l := l) (rs := serR s l) (key := key) n.toNat
      have hx : (t.reads.take (k + 1)).map (fun key => lastW l (serR s l) key n.toNat) = (t.reads.take k).map (fun key => lastW l (serR s l) key n.toNat) ++ [lastW l (serR s l) key n.toNat] := by rw [take_snoc hkey, List.map_append]; rfl
      have hl1 : ((t.reads.take k).map fun key => lastW l (serR s l) key n.toNat).length + [lastW l (serR s l) key n.toNat].length = k + 1 := by simp; omega
      have hmw : mapW l (serR s l) n.toNat key = lastW l (serR s l) key n.toNat + 1 := rfl
      have hsb : mapW l (serR s l) n.toNat key - 1 = lastW l (serR s l) key n.toNat := by rw [hmw]; omega
      ((repeat apply WP.seq); apply WP.block)
      ((repeat apply WP.seq); apply WP.lreg; refine ALK.n OpN.ix rfl ?_; (first | refine ALK.n (opn_load rfl (eB rfl) rfl) rfl ?_ | refine ALK.r OpR.ld rfl ?_); refine nA rfl rfl ?_; refine ALK.nil ?_; try show WP _ _ _ _ _ _)
      ((repeat apply WP.seq); apply WP.lreg; refine nM rfl rfl ?_; refine nM rfl rfl ?_; refine nM rfl rfl ?_; refine ALK.r (opr_lookup Try.underlying170 Try.underlying3 Try.underlying3 (fun w => Try.zeroValue3 w) (eB rfl) (eB rfl) rfl (by omega) (by omega)) rfl ?_; refine ALK.n OpN.ar rfl ?_; refine ALK.n (opn_slit rfl rfl rfl rfl rfl rfl (Pc rfl (eB rfl) Cs.a rfl rfl Parts.nil) rfl) rfl ?_; refine ALK.e (ope_append (b := 8) [lastW l (serR s l) key n.toNat] rfl rfl rfl rfl rfl (eB rfl) (eB rfl) rfl (by rw [← hsb]; rfl) (by simp; omega) rfl) rfl rfl ?_; refine nA rfl rfl ?_; refine ALK.nil ?_; try show WP _ _ _ _ _ _)
      ((repeat apply WP.seq); apply WP.lreg; refine ALK.n OpN.ar rfl ?_; refine nM rfl rfl ?_; refine ALK.nil ?_; try show WP _ _ _ _ _ _)
      show ∃ _, _ ∧ _ ∧ _
      exact ⟨k + 1, by omega, by omega, Shift.sub [(0, 0), (1, 2)] rfl SubE.a (SubH.cons rfl rfl (ObLe.obj (fun o h => h)) (SubH.cons rfl rfl (ObLe.row hx.symm) SubH.nil))⟩
    · ((repeat apply WP.seq); refine WP.exit ?_; show WP _ _ _ _ _ _)
      have hkl : k = t.reads.length := by simp at h; omega
      subst hkl
      rw [List.take_length]
      refine WP.shift (Shift.frzRow 16 rfl rfl) ?_
      ((repeat apply WP.seq); apply WP.lreg; refine nM rfl rfl ?_; refine nA rfl rfl ?_; refine nA rfl rfl ?_; refine ALK.nil ?_; try show WP _ _ _ _ _ _)
      ((repeat apply WP.seq); refine WP.ret ?_; first | exact RetOk.one Try.results82 ResV.a | exact RetOk.tup Try.results82 rfl ResVs.a)
end Go.Proofs.Ytjgmbgfcffnanac
