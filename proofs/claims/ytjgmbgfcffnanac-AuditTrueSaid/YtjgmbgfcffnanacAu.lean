/- Package audit: Audit and its reference; the reference's Reads. -/
import Derived.Test.YtjgmbgfcffnanacWStore
namespace Go.Proofs.Ytjgmbgfcffnanac
open Go.RowKit

set_option maxRecDepth 100000 in
theorem Equal_fn (xs ys : List Int) : Fn (Cfg.mk Try.prog (ttAt ttl) ttl_ok.ok mixd) 83 [intsV xs, intsV ys] (IV.bool (decide (xs = ys))) := by
  refine Fn.of_wp _ Try.func83 rfl (by kernel_rfl) Try.ntmps83 rfl ?_
  intro F hD hG
  refine WP.len 0 rfl (fun hl1 => ?_)
  refine WP.len 1 rfl (fun hl2 => ?_)
  ((repeat apply WP.seq); apply WP.lreg; refine nA rfl rfl ?_; refine ALK.nil ?_; try show WP _ _ _ _ _ _)
  ((repeat apply WP.seq); apply WP.lreg; refine nM rfl rfl ?_; refine ALK.n OpN.ln rfl ?_; refine nM rfl rfl ?_; refine ALK.n OpN.ln rfl ?_; refine ALK.n OpN.cm rfl ?_; refine ALK.nil ?_; try show WP _ _ _ _ _ _)
  ((repeat apply WP.seq); refine WP.cond rfl (fun h => ?_) (fun h => ?_))
  · ((repeat apply WP.seq); apply WP.lreg; refine nA rfl rfl ?_; refine ALK.nil ?_; try show WP _ _ _ _ _ _)
    have hr : decide (xs = ys) = false := by
      simp only [bne_iff_ne, ne_eq] at h
      exact decide_eq_false fun e => h (by rw [e])
    ((repeat apply WP.seq); refine WP.ret ?_; first | exact RetOk.one Try.results83 ResV.a | exact RetOk.tup Try.results83 rfl ResVs.a)
  (refine WP.skip ?_; show WP _ _ _ _ _ _)
  have hlen : xs.length = ys.length := by simp at h; omega
  ((repeat apply WP.seq); apply WP.lreg; refine nM rfl rfl ?_; refine ALK.n OpN.ln rfl ?_; refine nM rfl rfl ?_; refine ALK.nil ?_; try show WP _ _ _ _ _ _)
  ((repeat apply WP.seq); apply WP.block)
  refine WP.loop (fun k : Nat => ⟨[(13, .im (IV.int k)), (12, .im (IV.int xs.length)), (0, .im (intsV xs)), (1, .im (intsV ys))], [], 0⟩) (fun k => k ≤ xs.length ∧ xs.take k = ys.take k) (fun k => xs.length - k) 0 ⟨Nat.zero_le _, rfl⟩ (Shift.sub [] rfl SubE.a SubH.nil) ?_
  rintro k ⟨hk, he⟩
  ((repeat apply WP.seq); apply WP.lreg; refine ALK.n OpN.cm rfl ?_; refine ALK.nil ?_; try show WP _ _ _ _ _ _)
  ((repeat apply WP.seq); refine WP.cond rfl (fun h => ?_) (fun h => ?_))
  · (refine WP.skip ?_; show WP _ _ _ _ _ _)
    have hlt : k < xs.length := by simpa using h
    obtain ⟨x, hx⟩ := get_at hlt
    obtain ⟨y, hy⟩ := get_at (xs := ys) (k := k) (by omega)
    ((repeat apply WP.seq); apply WP.block)
    ((repeat apply WP.seq); apply WP.lreg; refine nM rfl rfl ?_; refine nA rfl rfl ?_; refine ALK.nil ?_; try show WP _ _ _ _ _ _)
    ((repeat apply WP.seq); apply WP.ldraw; refine nM rfl rfl ?_; refine nM rfl rfl ?_; refine ALK.n OpN.ix rfl ?_; (first | refine ALK.n (opn_load rfl (eB rfl) rfl) rfl ?_ | refine ALK.r OpR.ld rfl ?_); refine nM rfl rfl ?_; refine nM rfl rfl ?_; refine ALK.n OpN.ix rfl ?_; (first | refine ALK.n (opn_load rfl (eB rfl) rfl) rfl ?_ | refine ALK.r OpR.ld rfl ?_); refine ALK.n OpN.cm rfl ?_; refine ALK.nilD (by kernel_rfl) ?_; try show WP _ _ _ _ _ _)
    ((repeat apply WP.seq); refine WP.cond rfl (fun h => ?_) (fun h => ?_))
    · ((repeat apply WP.seq); apply WP.lreg; refine nA rfl rfl ?_; refine ALK.nil ?_; try show WP _ _ _ _ _ _)
      have hr : decide (xs = ys) = false := decide_eq_false (ne_at hx hy fun e => by subst e; simp at h)
      ((repeat apply WP.seq); refine WP.ret ?_; first | exact RetOk.one Try.results83 ResV.a | exact RetOk.tup Try.results83 rfl ResVs.a)
    (refine WP.skip ?_; show WP _ _ _ _ _ _)
    ((repeat apply WP.seq); apply WP.lreg; refine ALK.n OpN.ar rfl ?_; refine nM rfl rfl ?_; refine ALK.nil ?_; try show WP _ _ _ _ _ _)
    show ∃ _, _ ∧ _ ∧ _
    exact ⟨k + 1, ⟨by omega, take_eq_next he hx hy (by simpa using h)⟩, by omega, (Shift.sub [] rfl SubE.a SubH.nil)⟩
  · ((repeat apply WP.seq); refine WP.exit ?_; show WP _ _ _ _ _ _)
    ((repeat apply WP.seq); apply WP.lreg; refine nA rfl rfl ?_; refine ALK.nil ?_; try show WP _ _ _ _ _ _)
    have hr : decide (xs = ys) = true := decide_eq_true (take_eq_all he (by simp at h; omega) hlen)
    ((repeat apply WP.seq); refine WP.ret ?_; first | exact RetOk.one Try.results83 ResV.a | exact RetOk.tup Try.results83 rfl ResVs.a)

def diffAt : List Res → List Res → Option Nat
  | x :: xs, y :: ys => if x = y then (diffAt xs ys).map (· + 1) else some 0
  | _, _ => none
theorem diffAt_at : ∀ {a b : List Res} {k : Nat} {x y : Res}, a.take k = b.take k → a[k]? = some x → b[k]? = some y → x ≠ y → diffAt a b = some k
  | [], _, k, x, y, _, h, _, _ => by simp at h
  | _ :: _, [], k, x, y, _, _, h, _ => by simp at h
  | u :: a, v :: b, 0, x, y, _, h1, h2, hne => by
    simp at h1 h2
    subst h1 h2
    unfold diffAt
    rw [if_neg hne]
  | u :: a, v :: b, k + 1, x, y, he, h1, h2, hne => by
    rw [List.take_succ_cons, List.take_succ_cons] at he
    injection he with e1 e2
    unfold diffAt
    rw [if_pos e1, diffAt_at e2 (by simpa using h1) (by simpa using h2) hne]
    rfl
theorem diffAt_self : ∀ (a : List Res), diffAt a a = none
  | [] => rfl
  | x :: a => by unfold diffAt; rw [if_pos rfl, diffAt_self a]; rfl
def audE (s : List Int) (l : List Txn) (st : List Int) (rs : List Res) : Int := if serE s l = 0 then (if st.length = 8 ∧ rs.length = l.length then 0 else 1) else serE s l
def audN (s : List Int) (l : List Txn) (st : List Int) (rs : List Res) : Int := if audE s l st rs = 0 then (match diffAt (serR s l) rs with
  | some k => (k : Int)
  | none => if serS s l = st then -1 else l.length) else 0

set_option maxRecDepth 100000 in
set_option maxHeartbeats 1000000 in
theorem Audit_fn (s : List Int) (l : List Txn) (st : List Int) (rs : List Res) (hbt : TxsB l) : Fn (Cfg.mk Try.prog (ttAt ttl) ttl_ok.ok mixd) 36 [intsV s, txsV l, intsV st, ressV rs] (IV.tup [IV.int (audN s l st rs), IV.int (audE s l st rs)]) := by
  refine Fn.of_wp _ Try.func36 rfl (by kernel_rfl) Try.ntmps36 rfl ?_
  intro F hD hG
  refine WP.len 1 rfl (fun hl1 => ?_)
  refine WP.len 3 rfl (fun hl3 => ?_)
  ((repeat apply WP.seq); apply WP.lreg; refine nA rfl rfl ?_; refine nA rfl rfl ?_; refine ALK.nil ?_; try show WP _ _ _ _ _ _)
  ((repeat apply WP.seq); apply WP.lreg; refine nM rfl rfl ?_; refine nM rfl rfl ?_; refine ALK.n (opn_call (store_Serial_fn s l hbt) (Evs.cons Ev.a (Evs.cons Ev.a Evs.nil))) rfl ?_; refine nM rfl rfl ?_; refine nX rfl rfl rfl ?_; refine nX rfl rfl rfl ?_; refine nX rfl rfl rfl ?_; refine nA rfl rfl ?_; refine nA rfl rfl ?_; refine nA rfl rfl ?_; refine ALK.nil ?_; try show WP _ _ _ _ _ _)
  ((repeat apply WP.seq); apply WP.lreg; refine nM rfl rfl ?_; refine ALK.n OpN.cm rfl ?_; refine ALK.nil ?_; try show WP _ _ _ _ _ _)
  ((repeat apply WP.seq); refine WP.cond rfl (fun h => ?_) (fun h => ?_))
  · ((repeat apply WP.seq); apply WP.lreg; refine nM rfl rfl ?_; refine nA rfl rfl ?_; refine nA rfl rfl ?_; refine ALK.nil ?_; try show WP _ _ _ _ _ _)
    have hne : ¬ serE s l = 0 := by simpa using h
    have h1 : audE s l st rs = serE s l := by unfold audE; rw [if_neg hne]
    have h2 : audN s l st rs = 0 := by unfold audN; rw [h1, if_neg hne]
    rw [h1, h2]
    ((repeat apply WP.seq); refine WP.ret ?_; first | exact RetOk.one Try.results36 ResV.a | exact RetOk.tup Try.results36 rfl ResVs.a)
  (refine WP.skip ?_; show WP _ _ _ _ _ _)
  have h0 : serE s l = 0 := by simpa using h
  rw [serL_of h0, serV_of h0]
  have hrl := serR_len s l
  ((repeat apply WP.seq); apply WP.lreg; refine nM rfl rfl ?_; refine ALK.n (opn_call (store_Check_fn st) (Evs.cons Ev.a Evs.nil)) rfl ?_; refine ALK.n OpN.cm rfl ?_; refine nM rfl rfl ?_; refine gM rfl rfl rfl rfl ?_; (first | refine ALK.g (fun hb => opn_len rfl (eC rfl hb)) rfl rfl rfl ?_ | refine ALK.g (fun hb => opn_lenRow rfl (eC rfl hb)) rfl rfl rfl ?_ | refine ALK.g (fun hb => opn_lenNil rfl (eC rfl hb)) rfl rfl rfl ?_); refine gM rfl rfl rfl rfl ?_; (first | refine ALK.g (fun hb => opn_len rfl (eC rfl hb)) rfl rfl rfl ?_ | refine ALK.g (fun hb => opn_lenRow rfl (eC rfl hb)) rfl rfl rfl ?_ | refine ALK.g (fun hb => opn_lenNil rfl (eC rfl hb)) rfl rfl rfl ?_); (first | refine ALK.g (fun hb => opn_cmp (eC rfl hb) (eC rfl hb) rfl) rfl rfl rfl ?_ | refine ALK.g (fun hb => opn_cmpB rfl (eC rfl hb) (eC rfl hb) rfl) rfl rfl rfl ?_); refine ALK.n (opn_pick_or (eB rfl) rfl rfl (fun hb2 => by first | (rw [hb2]; rfl) | (rw [hb, hb2]; rfl) | simp_all [gd])) rfl ?_; refine ALK.nil ?_; try show WP _ _ _ _ _ _)
  ((repeat apply WP.seq); refine WP.cond rfl (fun h => ?_) (fun h => ?_))
  · ((repeat apply WP.seq); apply WP.lreg; refine nA rfl rfl ?_; refine nA rfl rfl ?_; refine ALK.nil ?_; try show WP _ _ _ _ _ _)
    have h1 : audE s l st rs = 1 := by
      unfold audE
      rw [if_pos h0, if_neg]
      rintro ⟨a, b⟩
      rw [if_pos a, b] at h
      simp at h
    have h2 : audN s l st rs = 0 := by unfold audN; rw [h1]; rfl
    rw [h1, h2]
    ((repeat apply WP.seq); refine WP.ret ?_; first | exact RetOk.one Try.results36 ResV.a | exact RetOk.tup Try.results36 rfl ResVs.a)
  (refine WP.skip ?_; show WP _ _ _ _ _ _)
  have hc : st.length = 8 ∧ rs.length = l.length := by
    by_cases a : st.length = 8
    · rw [if_pos a] at h
      simp at h
      exact ⟨a, by omega⟩
    · rw [if_neg a] at h
      simp at h
  have hE : audE s l st rs = 0 := by unfold audE; rw [if_pos h0, if_pos hc]
  have hN : audN s l st rs = match diffAt (serR s l) rs with
    | some k => (k : Int)
    | none => if serS s l = st then -1 else l.length := by unfold audN; rw [if_pos hE]
  rw [hE]
  ((repeat apply WP.seq); apply WP.lreg; refine nM rfl rfl ?_; refine ALK.n OpN.ln rfl ?_; refine nM rfl rfl ?_; refine ALK.nil ?_; try show WP _ _ _ _ _ _)
  ((repeat apply WP.seq); apply WP.block)
  refine WP.loop (fun k : Nat => ⟨[(37, .im (IV.int k)), (35, .im (ressV (serR s l))), (36, .im (IV.int (serR s l).length)), (1, .im (txsV l)), (2, .im (intsV st)), (3, .im (ressV rs)), (10, .im (intsV (serS s l)))], [], 0⟩) (fun k => k ≤ l.length ∧ (serR s l).take k = rs.take k) (fun k => l.length - k) 0 ⟨Nat.zero_le _, rfl⟩ (Shift.sub [] rfl SubE.a SubH.nil) ?_
  rintro k ⟨hk, he⟩
  ((repeat apply WP.seq); apply WP.lreg; refine ALK.n OpN.cm rfl ?_; refine ALK.nil ?_; try show WP _ _ _ _ _ _)
  ((repeat apply WP.seq); refine WP.cond rfl (fun h => ?_) (fun h => ?_))
  · (refine WP.skip ?_; show WP _ _ _ _ _ _)
    have hlt : k < l.length := by simp at h; omega
    obtain ⟨x, hx⟩ := get_at (xs := serR s l) (k := k) (by omega)
    obtain ⟨y, hy⟩ := get_at (xs := rs) (k := k) (by omega)
    ((repeat apply WP.seq); apply WP.block)
    ((repeat apply WP.seq); apply WP.lreg; refine nM rfl rfl ?_; refine ALK.n OpN.ix rfl ?_; (first | refine ALK.n (opn_load rfl (eB rfl) rfl) rfl ?_ | refine ALK.r OpR.ld rfl ?_); refine ALK.a (opa_alloc rfl rfl) rfl ?_; refine nA rfl rfl ?_; (first | refine ALK.e (ope_store rfl (eB rfl) (eB rfl) Cs.a rfl rfl rfl) rfl rfl ?_ | refine ALK.e (ope_storeRow rfl rfl (eB rfl) (eB rfl) (oc_val rfl) rfl rfl (by assumption)) rfl rfl ?_); refine ALK.nil ?_; try show WP _ _ _ _ _ _)
    refine WP.shift (Shift.frzBlk 14 rfl rfl rfl) ?_
    ((repeat apply WP.seq); apply WP.ldraw; (first | refine ALK.n (opn_field (o := 0) rfl (eB rfl)) rfl ?_ | refine ALK.n (opn_fieldOff (o := 0) rfl (eB rfl)) rfl ?_); (first | refine ALK.n (opn_load rfl (eB rfl) rfl) rfl ?_ | refine ALK.r OpR.ld rfl ?_); refine nM rfl rfl ?_; refine nM rfl rfl ?_; refine ALK.n OpN.ix rfl ?_; (first | refine ALK.n (opn_field (o := 0) rfl (eB rfl)) rfl ?_ | refine ALK.n (opn_fieldOff (o := 0) rfl (eB rfl)) rfl ?_); (first | refine ALK.n (opn_load rfl (eB rfl) rfl) rfl ?_ | refine ALK.r OpR.ld rfl ?_); refine ALK.n OpN.cm rfl ?_; refine nM rfl rfl ?_; (first | refine ALK.g (fun hb => opn_field (o := 1) rfl (eB rfl)) rfl rfl rfl ?_ | refine ALK.g (fun hb => opn_fieldOff (o := 1) rfl (eB rfl)) rfl rfl rfl ?_); (first | refine ALK.g (fun hb => opn_load rfl (eC rfl hb) rfl) rfl rfl rfl ?_ | refine ALK.rg (fun hb => opr_load rfl (eC rfl hb) rfl rfl) rfl rfl rfl ?_ | refine ALK.rg (fun hb => opr_loadRow rfl rfl (eC rfl hb) rfl (by assumption) rfl) rfl rfl rfl ?_ | refine ALK.rg (fun hb => opr_loadK0 rfl (eC rfl hb) rfl (by assumption) rfl) rfl rfl rfl ?_ | refine ALK.rg (fun hb => opr_loadK rfl (eC rfl hb) rfl (by assumption) rfl) rfl rfl rfl ?_); refine gM rfl rfl rfl rfl ?_; refine gM rfl rfl rfl rfl ?_; (first | refine ALK.g (fun hb => opn_index rfl (eC rfl hb) (eC rfl hb) (by omega) (by assumption)) rfl rfl rfl ?_ | refine ALK.g (fun hb => opn_indexRow1 rfl (eC rfl hb) (eC rfl hb) (by omega) (by omega)) rfl rfl rfl ?_ | refine ALK.g (fun hb => opn_indexRow rfl (eC rfl hb) (eC rfl hb) (by omega) (by omega)) rfl rfl rfl ?_ | refine ALK.g (fun hb => opn_indexArr rfl (eC rfl hb) (eC rfl hb) (by omega) (by omega)) rfl rfl rfl ?_ | refine ALK.g (fun hb => opn_indexArrI rfl (eC rfl hb) (eC rfl hb) (by omega) (by omega)) rfl rfl rfl ?_); (first | refine ALK.g (fun hb => opn_field (o := 1) rfl (eC rfl hb)) rfl rfl rfl ?_ | refine ALK.g (fun hb => opn_fieldOff (o := 1) rfl (eC rfl hb)) rfl rfl rfl ?_); (first | refine ALK.g (fun hb => opn_load rfl (eC rfl hb) rfl) rfl rfl rfl ?_ | refine ALK.rg (fun hb => opr_load rfl (eC rfl hb) rfl rfl) rfl rfl rfl ?_ | refine ALK.rg (fun hb => opr_loadRow rfl rfl (eC rfl hb) rfl (by assumption) rfl) rfl rfl rfl ?_ | refine ALK.rg (fun hb => opr_loadK0 rfl (eC rfl hb) rfl (by assumption) rfl) rfl rfl rfl ?_ | refine ALK.rg (fun hb => opr_loadK rfl (eC rfl hb) rfl (by assumption) rfl) rfl rfl rfl ?_); refine ALK.g (fun hb => opn_call (Equal_fn _ _) (Evs.cons Ev.a (Evs.cons Ev.a Evs.nil))) rfl rfl rfl ?_; refine ALK.g (fun hb => opn_not (eC rfl hb)) rfl rfl rfl ?_; refine ALK.n (opn_pick_or (eB rfl) rfl rfl (fun hb2 => by first | (rw [hb2]; rfl) | (rw [hb, hb2]; rfl) | simp_all [gd])) rfl ?_; refine ALK.nilD (by kernel_rfl) ?_; try show WP _ _ _ _ _ _)
    ((repeat apply WP.seq); refine WP.cond rfl (fun h => ?_) (fun h => ?_))
    · ((repeat apply WP.seq); apply WP.lreg; refine nM rfl rfl ?_; refine nA rfl rfl ?_; refine nA rfl rfl ?_; refine ALK.nil ?_; try show WP _ _ _ _ _ _)
      have hd : diffAt (serR s l) rs = some k := diffAt_at he hx hy fun e => by subst e; simp at h
      rw [hN, hd]
      ((repeat apply WP.seq); refine WP.ret ?_; first | exact RetOk.one Try.results36 ResV.a | exact RetOk.tup Try.results36 rfl ResVs.a)
    (refine WP.skip ?_; show WP _ _ _ _ _ _)
    have hxy : x = y := by
      obtain ⟨a, b⟩ := x
      obtain ⟨c, d⟩ := y
      simp at h
      rw [h.1, h.2]
    ((repeat apply WP.seq); apply WP.lreg; refine ALK.n OpN.ar rfl ?_; refine nM rfl rfl ?_; refine ALK.nil ?_; try show WP _ _ _ _ _ _)
    show ∃ _, _ ∧ _ ∧ _
    exact ⟨k + 1, ⟨by omega, take_eq_next he hx hy hxy⟩, by omega, (Shift.sub [] rfl SubE.a SubH.nil)⟩
  · ((repeat apply WP.seq); refine WP.exit ?_; show WP _ _ _ _ _ _)
    have hall : serR s l = rs := take_eq_all he (by simp at h; omega) (by omega)
    have hd : diffAt (serR s l) rs = none := by rw [hall]; exact diffAt_self _
    ((repeat apply WP.seq); apply WP.lreg; refine nM rfl rfl ?_; refine nM rfl rfl ?_; refine ALK.n (opn_call (Equal_fn _ _) (Evs.cons Ev.a (Evs.cons Ev.a Evs.nil))) rfl ?_; refine ALK.n (opn_not (eB rfl)) rfl ?_; refine ALK.nil ?_; try show WP _ _ _ _ _ _)
    ((repeat apply WP.seq); refine WP.cond rfl (fun h => ?_) (fun h => ?_))
    · ((repeat apply WP.seq); apply WP.lreg; refine nM rfl rfl ?_; refine ALK.n OpN.ln rfl ?_; refine nA rfl rfl ?_; refine nA rfl rfl ?_; refine ALK.nil ?_; try show WP _ _ _ _ _ _)
      have hn : ¬ serS s l = st := by simpa using h
      have hr : audN s l st rs = (l.length : Int) := by rw [hN, hd]; exact if_neg hn
      rw [hr]
      ((repeat apply WP.seq); refine WP.ret ?_; first | exact RetOk.one Try.results36 ResV.a | exact RetOk.tup Try.results36 rfl ResVs.a)
    (refine WP.skip ?_; show WP _ _ _ _ _ _)
    have hn : serS s l = st := by simpa using h
    have hr : audN s l st rs = -1 := by rw [hN, hd]; exact if_pos hn
    ((repeat apply WP.seq); apply WP.lreg; refine nA rfl rfl ?_; refine nA rfl rfl ?_; refine ALK.nil ?_; try show WP _ _ _ _ _ _)
    rw [hr]
    ((repeat apply WP.seq); refine WP.ret ?_; first | exact RetOk.one Try.results36 ResV.a | exact RetOk.tup Try.results36 rfl ResVs.a)
end Go.Proofs.Ytjgmbgfcffnanac
