/- Package graph: who clashes with whom. -/
import Derived.Test.YtjgmbgfcffnanacSame
import Derived.Test.YtjgmbgfcffnanacLit
namespace Go.Proofs.Ytjgmbgfcffnanac
open Go.RowKit

def has (xs : List Int) (k : Int) : Bool := xs.any (fun q => k == q)
def byB (p : Int → Bool) (x y : Txn) : Bool := (keysOf x).any (fun k => p k && (has (keysOf y) k || has y.reads k)) || (keysOf y).any (fun k => p k && has x.reads k)
def clashB (x y : Txn) : Bool := byB (fun _ => true) x y

set_option maxRecDepth 100000 in
theorem every_fn (k : Int) : Fn (Cfg.mk Try.prog (ttAt ttl) ttl_ok.ok mixd) 109 [IV.int k] (IV.bool true) := by
  refine Fn.of_wp _ Try.func109 rfl (by kernel_rfl) Try.ntmps109 rfl ?_
  intro F hD hG
  ((repeat apply WP.seq); apply WP.lreg; refine nA rfl rfl ?_; refine ALK.nil ?_; try show WP _ _ _ _ _ _)
  ((repeat apply WP.seq); apply WP.lreg; refine nA rfl rfl ?_; refine ALK.nil ?_; try show WP _ _ _ _ _ _)
  ((repeat apply WP.seq); refine WP.ret ?_; first | exact RetOk.one Try.results109 ResV.a | exact RetOk.tup Try.results109 rfl ResVs.a)

set_option maxRecDepth 100000 in
theorem By1_fn (k : Int) (f : FuncId) (caps : List IV) (b : Bool) (hf : Fn (Cfg.mk Try.prog (ttAt ttl) ttl_ok.ok mixd) f ([IV.int k] ++ caps) (IV.bool b)) (ys : List Int) (y : Txn) : Fn (Cfg.mk Try.prog (ttAt ttl) ttl_ok.ok mixd) 132 [IV.int k, IV.ptr [IV.fn f caps], IV.ptr [intsV ys], IV.ptr (cT y)] (IV.bool (b && (has ys k || has y.reads k))) := by
  refine Fn.of_wp _ Try.func132 rfl (by kernel_rfl) Try.ntmps132 rfl ?_
  intro F hD hG
  ((repeat apply WP.seq); apply WP.lreg; refine nA rfl rfl ?_; refine ALK.nil ?_; try show WP _ _ _ _ _ _)
  ((repeat apply WP.seq); apply WP.lreg; (first | refine ALK.n (opn_load rfl (eB rfl) rfl) rfl ?_ | refine ALK.r OpR.ld rfl ?_); refine nM rfl rfl ?_; refine ALK.n (opn_callFn (by first | exact Ev.base rfl | exact Ev.cnd rfl (by assumption)) hf (Evs.cons Ev.a Evs.nil)) rfl ?_; refine nM rfl rfl ?_; (first | refine ALK.g (fun hb => opn_load rfl (eB rfl) rfl) rfl rfl rfl ?_ | refine ALK.rg (fun hb => opr_load rfl (eB rfl) rfl rfl) rfl rfl rfl ?_ | refine ALK.rg (fun hb => opr_loadRow rfl rfl (eB rfl) rfl (by assumption) rfl) rfl rfl rfl ?_ | refine ALK.rg (fun hb => opr_loadK0 rfl (eB rfl) rfl (by assumption) rfl) rfl rfl rfl ?_ | refine ALK.rg (fun hb => opr_loadK rfl (eB rfl) rfl (by assumption) rfl) rfl rfl rfl ?_); refine gM rfl rfl rfl rfl ?_; refine ALK.g (fun hb => opn_call (Contains_fn _ _) (Evs.cons Ev.a (Evs.cons Ev.a Evs.nil))) rfl rfl rfl ?_; refine ALK.g (fun hb => opn_move (eC rfl hb)) rfl rfl rfl ?_; (first | refine ALK.g2 (fun hb => opn_field (o := 0) rfl (eB rfl)) rfl rfl rfl ?_ | refine ALK.g2 (fun hb => opn_fieldOff (o := 0) rfl (eB rfl)) rfl rfl rfl ?_); (first | refine ALK.g2 (fun hb => opn_load rfl (eC rfl hb) rfl) rfl rfl rfl ?_ | refine ALK.rg2 (fun hb => opr_load rfl (eC rfl hb) rfl rfl) rfl rfl rfl ?_ | refine ALK.rg2 (fun hb => opr_loadRow rfl rfl (eC rfl hb) rfl (by assumption) rfl) rfl rfl rfl ?_ | refine ALK.rg2 (fun hb => opr_loadK0 rfl (eC rfl hb) rfl (by assumption) rfl) rfl rfl rfl ?_ | refine ALK.rg2 (fun hb => opr_loadK rfl (eC rfl hb) rfl (by assumption) rfl) rfl rfl rfl ?_); refine ALK.g2 (fun hb => opn_move (eB rfl)) rfl rfl rfl ?_; refine ALK.g2 (fun hb => opn_call (Contains_fn _ _) (Evs.cons Ev.a (Evs.cons Ev.a Evs.nil))) rfl rfl rfl ?_; refine ALK.g (fun hb => opn_pick_or (eC rfl hb) rfl rfl (fun hb2 => by first | (rw [hb2]; rfl) | (rw [hb, hb2]; rfl) | simp_all [gd])) rfl rfl rfl ?_; refine ALK.n (opn_pick_and (eB rfl) rfl (fun hb2 => by first | exact hb2 | (rw [hb, hb2]; rfl) | simp_all [gd]) rfl) rfl ?_; refine nA rfl rfl ?_; refine ALK.nil ?_; try show WP _ _ _ _ _ _)
  ((repeat apply WP.seq); refine WP.ret ?_; first | exact RetOk.one Try.results132 ResV.a | exact RetOk.tup Try.results132 rfl ResVs.a)

set_option maxRecDepth 100000 in
theorem By2_fn (k : Int) (f : FuncId) (caps : List IV) (b : Bool) (hf : Fn (Cfg.mk Try.prog (ttAt ttl) ttl_ok.ok mixd) f ([IV.int k] ++ caps) (IV.bool b)) (x : Txn) : Fn (Cfg.mk Try.prog (ttAt ttl) ttl_ok.ok mixd) 133 [IV.int k, IV.ptr [IV.fn f caps], IV.ptr (cT x)] (IV.bool (b && has x.reads k)) := by
  refine Fn.of_wp _ Try.func133 rfl (by kernel_rfl) Try.ntmps133 rfl ?_
  intro F hD hG
  ((repeat apply WP.seq); apply WP.lreg; refine nA rfl rfl ?_; refine ALK.nil ?_; try show WP _ _ _ _ _ _)
  ((repeat apply WP.seq); apply WP.lreg; (first | refine ALK.n (opn_load rfl (eB rfl) rfl) rfl ?_ | refine ALK.r OpR.ld rfl ?_); refine nM rfl rfl ?_; refine ALK.n (opn_callFn (by first | exact Ev.base rfl | exact Ev.cnd rfl (by assumption)) hf (Evs.cons Ev.a Evs.nil)) rfl ?_; refine nM rfl rfl ?_; (first | refine ALK.g (fun hb => opn_field (o := 0) rfl (eB rfl)) rfl rfl rfl ?_ | refine ALK.g (fun hb => opn_fieldOff (o := 0) rfl (eB rfl)) rfl rfl rfl ?_); (first | refine ALK.g (fun hb => opn_load rfl (eC rfl hb) rfl) rfl rfl rfl ?_ | refine ALK.rg (fun hb => opr_load rfl (eC rfl hb) rfl rfl) rfl rfl rfl ?_ | refine ALK.rg (fun hb => opr_loadRow rfl rfl (eC rfl hb) rfl (by assumption) rfl) rfl rfl rfl ?_ | refine ALK.rg (fun hb => opr_loadK0 rfl (eC rfl hb) rfl (by assumption) rfl) rfl rfl rfl ?_ | refine ALK.rg (fun hb => opr_loadK rfl (eC rfl hb) rfl (by assumption) rfl) rfl rfl rfl ?_); refine gM rfl rfl rfl rfl ?_; refine ALK.g (fun hb => opn_call (Contains_fn _ _) (Evs.cons Ev.a (Evs.cons Ev.a Evs.nil))) rfl rfl rfl ?_; refine ALK.n (opn_pick_and (eB rfl) rfl (fun hb2 => by first | exact hb2 | (rw [hb, hb2]; rfl) | simp_all [gd]) rfl) rfl ?_; refine nA rfl rfl ?_; refine ALK.nil ?_; try show WP _ _ _ _ _ _)
  ((repeat apply WP.seq); refine WP.ret ?_; first | exact RetOk.one Try.results133 ResV.a | exact RetOk.tup Try.results133 rfl ResVs.a)

set_option maxRecDepth 100000 in
theorem By_fn (x y : Txn) (f : FuncId) (caps : List IV) (p : Int → Bool) (hf : ∀ k, Fn (Cfg.mk Try.prog (ttAt ttl) ttl_ok.ok mixd) f ([IV.int k] ++ caps) (IV.bool (p k))) (hx : TxnB x) (hy : TxnB y) : Fn (Cfg.mk Try.prog (ttAt ttl) ttl_ok.ok mixd) 108 [txnV x, txnV y, IV.fn f caps] (IV.bool (byB p x y)) := by
  refine Fn.of_wp _ Try.func108 rfl (by kernel_rfl) Try.ntmps108 rfl ?_
  intro F hD hG
  ((repeat apply WP.seq); apply WP.lreg; refine ALK.n (opn_box (eB rfl) Cs.a rfl) rfl ?_; refine ALK.n (opn_box (eB rfl) Cs.a rfl) rfl ?_; refine ALK.n (opn_box (eB rfl) Cs.a rfl) rfl ?_; refine nA rfl rfl ?_; refine ALK.nil ?_; try show WP _ _ _ _ _ _)
  ((repeat apply WP.seq); apply WP.ldraw; (first | refine ALK.n (opn_load rfl (eB rfl) rfl) rfl ?_ | refine ALK.r OpR.ld rfl ?_); refine ALK.n (opn_call (txn_Keys_fn x hx) (Evs.cons Ev.a Evs.nil)) rfl ?_; (first | refine ALK.n (opn_load rfl (eB rfl) rfl) rfl ?_ | refine ALK.r OpR.ld rfl ?_); refine ALK.n (opn_call (txn_Keys_fn y hy) (Evs.cons Ev.a Evs.nil)) rfl ?_; refine ALK.a (opa_alloc rfl rfl) rfl ?_; refine nA rfl rfl ?_; (first | refine ALK.e (ope_store rfl (eB rfl) (eB rfl) Cs.a rfl rfl rfl) rfl rfl ?_ | refine ALK.e (ope_storeRow rfl rfl (eB rfl) (eB rfl) (oc_val rfl) rfl rfl (by assumption)) rfl rfl ?_); refine ALK.nilD (by kernel_rfl) ?_; try show WP _ _ _ _ _ _)
  refine WP.shift (Shift.frzBlk 8 rfl rfl rfl) ?_
  ((repeat apply WP.seq); apply WP.lreg; refine nM rfl rfl ?_; refine ALK.n (opn_makeFunc (Evs.cons Ev.a (Evs.cons Ev.a (Evs.cons Ev.a Evs.nil)))) rfl ?_; refine ALK.n (opn_call (ContainsFunc_fn (keysOf x) _ _ _ (fun k _ => By1_fn k f caps (p k) (hf k) (keysOf y) y)) (Evs.cons Ev.a (Evs.cons Ev.a Evs.nil))) rfl ?_; refine nA rfl rfl ?_; refine ALK.nil ?_; try show WP _ _ _ _ _ _)
  ((repeat apply WP.seq); apply WP.lreg; refine nM rfl rfl ?_; refine nM rfl rfl ?_; (first | refine ALK.g (fun hb => opn_load rfl (eB rfl) rfl) rfl rfl rfl ?_ | refine ALK.rg (fun hb => opr_load rfl (eB rfl) rfl rfl) rfl rfl rfl ?_ | refine ALK.rg (fun hb => opr_loadRow rfl rfl (eB rfl) rfl (by assumption) rfl) rfl rfl rfl ?_ | refine ALK.rg (fun hb => opr_loadK0 rfl (eB rfl) rfl (by assumption) rfl) rfl rfl rfl ?_ | refine ALK.rg (fun hb => opr_loadK rfl (eB rfl) rfl (by assumption) rfl) rfl rfl rfl ?_); refine ALK.g (fun hb => opn_makeFunc (Evs.cons Ev.a (Evs.cons Ev.a Evs.nil))) rfl rfl rfl ?_; refine ALK.g (fun hb => opn_call (ContainsFunc_fn (keysOf y) _ _ _ (fun k _ => By2_fn k f caps (p k) (hf k) x)) (Evs.cons Ev.a (Evs.cons Ev.a Evs.nil))) rfl rfl rfl ?_; refine ALK.n (opn_pick_or (eB rfl) rfl rfl (fun hb2 => by first | (rw [hb2]; rfl) | (rw [hb, hb2]; rfl) | simp_all [gd])) rfl ?_; refine nA rfl rfl ?_; refine ALK.nil ?_; try show WP _ _ _ _ _ _)
  ((repeat apply WP.seq); refine WP.ret ?_; first | exact RetOk.one Try.results108 ResV.a | exact RetOk.tup Try.results108 rfl ResVs.a)

def err2 (x y : Txn) : Int := if checkTxn x = 0 then checkTxn y else checkTxn x
theorem err2_at {x y t : Txn} {k : Nat} (h : ∀ u ∈ [x, y].take k, checkTxn u = 0) (ht : [x, y][k]? = some t) (hn : checkTxn t ≠ 0) : err2 x y = checkTxn t := by
  match k, ht with
  | 0, ht => simp at ht; subst ht; unfold err2; rw [if_neg hn]
  | 1, ht => simp at ht h; subst ht; unfold err2; rw [if_pos h]
theorem err2_zero {x y : Txn} (h : ∀ u ∈ [x, y], checkTxn u = 0) : err2 x y = 0 := by
  simp at h; unfold err2; rw [if_pos h.1, h.2]
theorem take_all {p : Txn → Prop} {xs : List Txn} {k : Nat} {x : Txn} (h : ∀ u ∈ xs.take k, p u) (hx : xs[k]? = some x) (hp : p x) : ∀ u ∈ xs.take (k + 1), p u := fun u hu => by
  rw [List.take_add_one, List.mem_append, hx] at hu
  rcases hu with hu | hu
  · exact h u hu
  · simp at hu; subst hu; exact hp

set_option maxRecDepth 100000 in
theorem Clash_fn (x y : Txn) (hx : TxnB x) (hy : TxnB y) : Fn (Cfg.mk Try.prog (ttAt ttl) ttl_ok.ok mixd) 52 [txnV x, txnV y] (IV.tup [IV.bool (decide (err2 x y = 0) && clashB x y), IV.int (err2 x y)]) := by
  refine Fn.of_wp _ Try.func52 rfl (by kernel_rfl) Try.ntmps52 rfl ?_
  intro F hD hG
  ((repeat apply WP.seq); apply WP.lreg; refine ALK.n (opn_box (eB rfl) Cs.a rfl) rfl ?_; refine ALK.n (opn_box (eB rfl) Cs.a rfl) rfl ?_; refine nA rfl rfl ?_; refine nA rfl rfl ?_; refine ALK.nil ?_; try show WP _ _ _ _ _ _)
  ((repeat apply WP.seq); apply WP.lreg; (first | refine ALK.n (opn_load rfl (eB rfl) rfl) rfl ?_ | refine ALK.r OpR.ld rfl ?_); (first | refine ALK.n (opn_load rfl (eB rfl) rfl) rfl ?_ | refine ALK.r OpR.ld rfl ?_); refine ALK.n (opn_slit rfl rfl rfl rfl rfl rfl (Pc rfl (eB rfl) Cs.a rfl rfl (Pc rfl (eB rfl) Cs.a rfl rfl Parts.nil)) rfl) rfl ?_; refine ALK.n OpN.ln rfl ?_; refine nM rfl rfl ?_; refine ALK.nil ?_; try show WP _ _ _ _ _ _)
  ((repeat apply WP.seq); apply WP.block)
  refine WP.loop (fun k : Nat => ⟨[(13, .im (IV.int k)), (12, .im (IV.int 2)), (11, .im (txsV [x, y])), (2, .im (IV.ptr (cT x))), (3, .im (IV.ptr (cT y)))], [], 0⟩) (fun k => k ≤ 2 ∧ ∀ u ∈ [x, y].take k, checkTxn u = 0) (fun k => 2 - k) 0 ⟨by omega, by simp⟩ (Shift.sub [] rfl SubE.a SubH.nil) ?_
  rintro k ⟨hk, he⟩
  ((repeat apply WP.seq); apply WP.lreg; refine ALK.n OpN.cm rfl ?_; refine ALK.nil ?_; try show WP _ _ _ _ _ _)
  ((repeat apply WP.seq); refine WP.cond rfl (fun h => ?_) (fun h => ?_))
  · (refine WP.skip ?_; show WP _ _ _ _ _ _)
    have hlt : k < 2 := by simp at h; omega
    obtain ⟨t, ht⟩ := get_at (xs := [x, y]) (k := k) (by simpa using hlt)
    have hb : TxnB t := by
      have := List.mem_of_getElem? ht
      simp at this
      rcases this with rfl | rfl <;> assumption
    ((repeat apply WP.seq); apply WP.block)
    ((repeat apply WP.seq); apply WP.lreg; refine ALK.n OpN.ix rfl ?_; (first | refine ALK.n (opn_load rfl (eB rfl) rfl) rfl ?_ | refine ALK.r OpR.ld rfl ?_); refine ALK.a (opa_alloc rfl rfl) rfl ?_; (first | refine ALK.e (ope_store rfl (eB rfl) (eB rfl) Cs.a rfl rfl rfl) rfl rfl ?_ | refine ALK.e (ope_storeRow rfl rfl (eB rfl) (eB rfl) (oc_val rfl) rfl rfl (by assumption)) rfl rfl ?_); refine ALK.nil ?_; try show WP _ _ _ _ _ _)
    ((repeat apply WP.seq); apply WP.lreg; (first | refine ALK.n (opn_load rfl (eB rfl) rfl) rfl ?_ | refine ALK.r OpR.ld rfl ?_); refine ALK.n (opn_call (txn_Check_fn t hb) (Evs.cons Ev.a Evs.nil)) rfl ?_; refine nA rfl rfl ?_; refine ALK.nil ?_; try show WP _ _ _ _ _ _)
    ((repeat apply WP.seq); apply WP.lreg; refine nM rfl rfl ?_; refine ALK.n OpN.cm rfl ?_; refine ALK.nil ?_; try show WP _ _ _ _ _ _)
    ((repeat apply WP.seq); refine WP.cond rfl (fun h => ?_) (fun h => ?_))
    · ((repeat apply WP.seq); apply WP.lreg; refine nM rfl rfl ?_; refine nA rfl rfl ?_; refine nA rfl rfl ?_; refine ALK.nil ?_; try show WP _ _ _ _ _ _)
      have hn : checkTxn t ≠ 0 := by simpa using h
      have hr : err2 x y = checkTxn t := err2_at he ht hn
      have hr2 : (decide (err2 x y = 0) && clashB x y) = false := by rw [hr]; simp [hn]
      ((repeat apply WP.seq); refine WP.ret ?_; first | exact RetOk.one Try.results52 ResV.a | exact RetOk.tup Try.results52 rfl ResVs.a)
    (refine WP.skip ?_; show WP _ _ _ _ _ _)
    ((repeat apply WP.seq); apply WP.lreg; refine ALK.n OpN.ar rfl ?_; refine nM rfl rfl ?_; refine ALK.nil ?_; try show WP _ _ _ _ _ _)
    show ∃ _, _ ∧ _ ∧ _
    exact ⟨k + 1, ⟨by omega, take_all he ht (by simpa using h)⟩, by omega, (Shift.sub [] rfl SubE.a SubH.nil)⟩
  · ((repeat apply WP.seq); refine WP.exit ?_; show WP _ _ _ _ _ _)
    have hk2 : k = 2 := by simp at h; omega
    subst hk2
    have hr : err2 x y = 0 := err2_zero he
    ((repeat apply WP.seq); apply WP.lreg; (first | refine ALK.n (opn_load rfl (eB rfl) rfl) rfl ?_ | refine ALK.r OpR.ld rfl ?_); (first | refine ALK.n (opn_load rfl (eB rfl) rfl) rfl ?_ | refine ALK.r OpR.ld rfl ?_); refine ALK.n (opn_call (By_fn x y _ [] (fun _ => true) every_fn hx hy) (Evs.cons Ev.a (Evs.cons Ev.a (Evs.cons Ev.a Evs.nil)))) rfl ?_; refine nA rfl rfl ?_; refine nA rfl rfl ?_; refine ALK.nil ?_; try show WP _ _ _ _ _ _)
    have hr2 : (decide (err2 x y = 0) && clashB x y) = byB (fun _ => true) x y := by rw [hr]; rfl
    ((repeat apply WP.seq); refine WP.ret ?_; first | exact RetOk.one Try.results52 ResV.a | exact RetOk.tup Try.results52 rfl ResVs.a)

structure EdgeT where
  a : Int
  b : Int
deriving DecidableEq
def cE (e : EdgeT) : List IV := [IV.int e.a, IV.int e.b]
abbrev edgesV (l : List EdgeT) : IV := IV.view 2 cE l
def eRow (x : Txn) (i : Nat) (ys : List Txn) (j : Nat) : List EdgeT := (List.range j).flatMap fun (q : Nat) => match ys[q]? with
  | some y => if clashB x y then [⟨i, (i : Int) + 1 + (q : Nat)⟩] else []
  | none => []
def edgesTo (l : List Txn) (i : Nat) : List EdgeT := (List.range i).flatMap fun q => match l[q]? with
  | some x => eRow x q (l.drop (q + 1)) (l.length - (q + 1))
  | none => []
def edgesOf (l : List Txn) : List EdgeT := if checkTxns l = 0 then edgesTo l l.length else []
theorem eRow_next {x y : Txn} {i : Nat} {ys : List Txn} {j : Nat} (h : ys[j]? = some y) : eRow x i ys (j + 1) = eRow x i ys j ++ (if clashB x y then [⟨i, (i : Int) + 1 + j⟩] else []) := by
  unfold eRow; rw [List.range_succ, List.flatMap_append]; simp [h]
theorem edgesTo_next {l : List Txn} {i : Nat} {x : Txn} (h : l[i]? = some x) : edgesTo l (i + 1) = edgesTo l i ++ eRow x i (l.drop (i + 1)) (l.length - (i + 1)) := by
  unfold edgesTo; rw [List.range_succ, List.flatMap_append]; simp [h]
theorem eRow_len (x : Txn) (i : Nat) (ys : List Txn) : ∀ j, (eRow x i ys j).length ≤ j
  | 0 => by simp [eRow]
  | j + 1 => by
    have := eRow_len x i ys j
    unfold eRow at this ⊢
    rw [List.range_succ, List.flatMap_append, List.length_append]
    have h2 : (match ys[j]? with
      | some y => if clashB x y then [(⟨i, (i : Int) + 1 + (j : Nat)⟩ : EdgeT)] else []
      | none => []).length ≤ 1 := by
      split
      · split <;> simp
      · simp
    simp only [List.flatMap_cons, List.flatMap_nil, List.append_nil]
    omega
theorem edgesTo_len {l : List Txn} (hl : l.length ≤ 8) : ∀ i, (edgesTo l i).length ≤ i * 8
  | 0 => by simp [edgesTo]
  | i + 1 => by
    have := edgesTo_len hl i
    unfold edgesTo at this ⊢
    rw [List.range_succ, List.flatMap_append, List.length_append]
    have h2 : (match l[i]? with
      | some x => eRow x i (l.drop (i + 1)) (l.length - (i + 1))
      | none => []).length ≤ 8 := by
      split
      · exact Nat.le_trans (eRow_len _ _ _ _) (by omega)
      · simp
    simp only [List.flatMap_cons, List.flatMap_nil, List.append_nil]
    omega

end Go.Proofs.Ytjgmbgfcffnanac
