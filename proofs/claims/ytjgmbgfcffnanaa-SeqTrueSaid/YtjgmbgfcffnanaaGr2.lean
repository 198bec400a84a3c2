/- Package graph: Swap; slices.Concat at transactions. -/
import Derived.Test.YtjgmbgfcffnanaaGr
import Derived.Test.YtjgmbgfcffnanaaLB
namespace Go.Proofs.Ytjgmbgfcffnanaa
open Go.RowKit

theorem txnInfo : (Try.prog.info? 66).map (fun i => (i.zero, i.size, i.bytes)) = some (some (.agg #[.slice none 0 0, .slice none 0 0, .slice none 0 0]), 3, 72) := by kernel_rfl
def encT0 (_ : Txn) : List Value := [.slice none 0 0, .slice none 0 0, .slice none 0 0]

set_option maxRecDepth 100000 in
set_option maxHeartbeats 1000000 in
theorem slices_Grow_txn (n : Nat) (w : World) (hn : n ≤ 1000000) :
    Calls Try.prog 102 #[.slice none 0 0, .int .i64 n] w fun e w' => ∃ v, e = .returned v ∧ Own 66 3 encT0 w' w.heap.size v [] ∧ Below w.heap.size w w' := by
  obtain ⟨i0, hi0, hz0, hz1, hz2⟩ := info_parts txnInfo
  rcases Nat.eq_zero_or_pos n with h0 | hpos
  · subst h0
    go_enter Try.func102, Try.ntmps102
    go_wp2
    go_ret
    exact ⟨_, rfl, Own.nil, Below.refl _ _⟩
  · have hG := grownCap_ge w n 0 66
    have hGm := grownCap_le_maxLen w n 0 66 (by unfold maxLen; omega)
    obtain ⟨z, hz⟩ : ∃ z : Value, z = .agg #[.slice none 0 0, .slice none 0 0, .slice none 0 0] := ⟨_, rfl⟩
    have hzc : z.cells.size = 3 := by rw [hz]; rfl
    rw [← hz] at hz0
    have hrz : ∀ ty, (Builtin.append_ #[38, 3] ty #[.slice none 0 0, .int .i64 (n : Int)]).run Try.prog w =
        .ok (.slice (some ⟨w.heap.size, 0, none⟩) n (grownCap w n 0 66)) (w.drew.alloc (.cells (Builtin.zeroCells z.cells n ++ Builtin.zeroCells z.cells (grownCap w n 0 66 - n)) 66)) := fun ty =>
      Lib.run_append_nil_zeros w 38 3 ty 66 i0 z .i64 .i64 Try.underlying38 Try.underlying3 hi0 hz0 n hpos (by omega) (by omega) (by rw [hz2]; omega)
    obtain ⟨G, hGe⟩ : ∃ G, Hid (G = grownCap w n 0 66) := ⟨_, rfl⟩
    rw [← hGe.out] at hrz hG hGm
    have hsz : (Builtin.zeroCells z.cells n ++ Builtin.zeroCells z.cells (G - n)).size = G * 3 := by
      simp only [Array.size_append, size_zeroCells, hzc]; omega
    obtain ⟨C, hC⟩ : ∃ C, C = (Builtin.zeroCells z.cells n ++ Builtin.zeroCells z.cells (G - n)) := ⟨_, rfl⟩
    rw [← hC] at hrz hsz
    clear hC
    have hown : Own 66 3 encT0 (w.drew.alloc (.cells C 66)) w.heap.size (.slice (some ⟨w.heap.size, 0, none⟩) 0 G) [] := Own.zero (heap_alloc_new w.drew _) (Nat.le_refl _) hGm hsz
    have hG2 : G ≤ 9223372036854775807 := by unfold maxLen at hGm; omega
    have hHid := Lib.hid hsz
    clear hsz hz hzc hz0
    go_enter Try.func102, Try.ntmps102
    go_wp2_with (at_builtin; refine Lib.wpList_append_run _ rfl _ _ _ _ rfl _ _ rfl rfl _ _ (hrz _) ?_)
    go_ret
    exact ⟨_, rfl, hown, Bel.alloc (Below.refl _ _).drew _⟩

theorem Grow_txn_row (n : Nat) (hn : n ≤ 1000000) : FnRow (Cfg.mk Try.prog (ttAt ttl) ttl_ok.ok mixd) 102 [IV.val (.slice none 0 0), IV.int n] 66 3 cT [] := by
  refine ⟨⟨⟨_, Try.func102, rfl, by kernel_rfl⟩, fun _ => rfl⟩, fun μ w vs hvs ha => ?_⟩
  obtain ⟨a, vs1, rfl, rfl, b, vs2, rfl, rfl, rfl⟩ := hvs
  refine (slices_Grow_txn n w hn).mono ?_
  rintro e w' ⟨v, rfl, ho, hb⟩
  refine ⟨v, μ, [], rfl, ho, rfl, fun u hu => (by cases hu), fun g hg => ?_, Stp.of_below ha hb⟩
  cases e : μ g with
  | none => rfl
  | some c =>
    have h1 := ha.lt (b := g) (by rw [e]; simp)
    have h2 := (World.ownsRow.lt ho g hg).1
    omega

def cTs (l : List Txn) : List IV := [txsV l]
theorem flat_take {α : Type} {ls : List (List α)} {k : Nat} {l : List α} (h : ls[k]? = some l) : (ls.take (k + 1)).flatten = (ls.take k).flatten ++ l := by
  rw [List.take_add_one, h]; simp
theorem view_eq {α β : Type} {k : Nat} {enc : α → List IV} {enc' : β → List IV} {xs : List α} {ys : List β} (h : xs.map enc = ys.map enc') : IV.view k enc xs = IV.view k enc' ys := by
  have h1 := ILe.view (k := k) h
  have h2 := ILe.view (k := k) h.symm
  have : (IV.view k enc xs).p = (IV.view k enc' ys).p := funext fun μ => funext fun v => propext ⟨h1 μ v, h2 μ v⟩
  cases e1 : IV.view k enc xs with
  | mk p m =>
    cases e2 : IV.view k enc' ys with
    | mk q m' => rw [e1, e2] at this; simp only at this; subst this; rfl
theorem flat_take_le {α : Type} (ls : List (List α)) (k : Nat) : (ls.take k).flatten.length ≤ ls.flatten.length := by
  have : ls.flatten = (ls.take k).flatten ++ (ls.drop k).flatten := by rw [← List.flatten_append, List.take_append_drop]
  rw [this, List.length_append]; omega

set_option maxRecDepth 100000 in
theorem Concat_txn_fn (ls : List (List Txn)) (h8 : ls.flatten.length ≤ 1000) : Fn (Cfg.mk Try.prog (ttAt ttl) ttl_ok.ok mixd) 91 [IV.view 1 cTs ls] (txsV ls.flatten) := by
  refine Fn.of_wp _ Try.func91 rfl (by kernel_rfl) Try.ntmps91 rfl ?_
  intro F hD hG
  refine WP.len 0 rfl (fun hl1 => ?_)
  ((repeat apply WP.seq); apply WP.lreg; refine nA rfl rfl ?_; refine ALK.nil ?_; try show WP _ _ _ _ _ _)
  ((repeat apply WP.seq); apply WP.lreg; refine nA rfl rfl ?_; refine ALK.nil ?_; try show WP _ _ _ _ _ _)
  ((repeat apply WP.seq); apply WP.lreg; refine nM rfl rfl ?_; refine ALK.n OpN.ln rfl ?_; refine nM rfl rfl ?_; refine ALK.nil ?_; try show WP _ _ _ _ _ _)
  ((repeat apply WP.seq); apply WP.block)
  refine WP.loop (fun k : Nat => ⟨[(11, .im (IV.int k)), (9, .im (IV.view 1 cTs ls)), (10, .im (IV.int ls.length)), (0, .im (IV.view 1 cTs ls)), (3, .im (IV.int (ls.take k).flatten.length))], [], 0⟩) (fun k => k ≤ ls.length) (fun k => ls.length - k) 0 (Nat.zero_le _) (Shift.sub [] rfl SubE.a SubH.nil) ?_
  rintro k hk
  ((repeat apply WP.seq); apply WP.lreg; refine ALK.n OpN.cm rfl ?_; refine ALK.nil ?_; try show WP _ _ _ _ _ _)
  ((repeat apply WP.seq); refine WP.cond rfl (fun h => ?_) (fun h => ?_))
  · (refine WP.skip ?_; show WP _ _ _ _ _ _)
    have hlt : k < ls.length := by simpa using h
    obtain ⟨l, hl⟩ := get_at hlt
    have hn := flat_take hl
    have hle := flat_take_le ls (k + 1)
    have hn2 : (ls.take k).flatten.length + l.length = (ls.take (k + 1)).flatten.length := by rw [hn, List.length_append]
    ((repeat apply WP.seq); apply WP.block)
    ((repeat apply WP.seq); apply WP.lreg; refine ALK.n OpN.ix rfl ?_; (first | refine ALK.n (opn_load rfl (eB rfl) rfl) rfl ?_ | refine ALK.r OpR.ld rfl ?_); refine nA rfl rfl ?_; refine ALK.nil ?_; try show WP _ _ _ _ _ _)
    ((repeat apply WP.seq); apply WP.lreg; refine nM rfl rfl ?_; refine nM rfl rfl ?_; refine ALK.n OpN.ln rfl ?_; refine ALK.n OpN.ar rfl ?_; refine nA rfl rfl ?_; refine ALK.nil ?_; try show WP _ _ _ _ _ _)
    ((repeat apply WP.seq); apply WP.lreg; refine nM rfl rfl ?_; refine ALK.n OpN.cm rfl ?_; refine ALK.nil ?_; try show WP _ _ _ _ _ _)
    ((repeat apply WP.seq); refine WP.cond rfl (fun h => ?_) (fun h => ?_))
    · exfalso
      simp at h
      omega
    · (refine WP.skip ?_; show WP _ _ _ _ _ _)
      ((repeat apply WP.seq); apply WP.lreg; refine ALK.n OpN.ar rfl ?_; refine nM rfl rfl ?_; refine ALK.nil ?_; try show WP _ _ _ _ _ _)
      show ∃ _, _ ∧ _ ∧ _
      exact ⟨k + 1, by omega, by omega, (Shift.sub [] rfl SubE.a SubH.nil)⟩
  · ((repeat apply WP.seq); refine WP.exit ?_; show WP _ _ _ _ _ _)
    have hk2 : k = ls.length := by simp at h; omega
    subst hk2
    rw [List.take_length]
    ((repeat apply WP.seq); apply WP.lreg; refine nM rfl rfl ?_; refine ALK.a (opa_callRow (Grow_txn_row ls.flatten.length (by omega)) (Evs.cons Ev.a (Evs.cons Ev.a Evs.nil))) rfl ?_; refine nA rfl rfl ?_; refine ALK.nil ?_; try show WP _ _ _ _ _ _)
    ((repeat apply WP.seq); apply WP.lreg; refine nM rfl rfl ?_; refine ALK.n OpN.ln rfl ?_; refine nM rfl rfl ?_; refine ALK.nil ?_; try show WP _ _ _ _ _ _)
    ((repeat apply WP.seq); apply WP.block)
    refine WP.loop (fun k : Nat => ⟨[(27, .im (IV.int k)), (25, .im (IV.view 1 cTs ls)), (26, .im (IV.int ls.length)), (6, .row 0 (ls.take k).flatten.length)], [(0, .row 66 3 cT (ls.take k).flatten)], 1⟩) (fun k => k ≤ ls.length) (fun k => ls.length - k) 0 (Nat.zero_le _) (Shift.sub [(0, 0)] rfl SubE.a SubH.a) ?_
    rintro k hk
    ((repeat apply WP.seq); apply WP.lreg; refine ALK.n OpN.cm rfl ?_; refine ALK.nil ?_; try show WP _ _ _ _ _ _)
    ((repeat apply WP.seq); refine WP.cond rfl (fun h => ?_) (fun h => ?_))
    · (refine WP.skip ?_; show WP _ _ _ _ _ _)
      have hlt : k < ls.length := by simpa using h
      obtain ⟨l, hl⟩ := get_at hlt
      have hn := flat_take hl
      have hle := flat_take_le ls (k + 1)
      have hn2 : (ls.take k).flatten.length + l.length = (ls.take (k + 1)).flatten.length := by rw [hn, List.length_append]
      ((repeat apply WP.seq); apply WP.block)
      ((repeat apply WP.seq); apply WP.lreg; refine ALK.n OpN.ix rfl ?_; (first | refine ALK.n (opn_load rfl (eB rfl) rfl) rfl ?_ | refine ALK.r OpR.ld rfl ?_); refine nA rfl rfl ?_; refine ALK.nil ?_; try show WP _ _ _ _ _ _)
      ((repeat apply WP.seq); apply WP.lreg; refine nM rfl rfl ?_; refine nM rfl rfl ?_; refine ALK.e (ope_append (b := 72) l rfl rfl rfl rfl rfl (eB rfl) (eB rfl) rfl rfl (by omega) rfl) rfl rfl ?_; refine nA rfl rfl ?_; refine ALK.nil ?_; try show WP _ _ _ _ _ _)
      ((repeat apply WP.seq); apply WP.lreg; refine ALK.n OpN.ar rfl ?_; refine nM rfl rfl ?_; refine ALK.nil ?_; try show WP _ _ _ _ _ _)
      show ∃ _, _ ∧ _ ∧ _
      exact ⟨k + 1, by omega, by omega, Shift.sub [(0, 1)] rfl SubE.a (SubH.cons rfl rfl (ObLe.row hn.symm) SubH.nil)⟩
    · ((repeat apply WP.seq); refine WP.exit ?_; show WP _ _ _ _ _ _)
      have hk2 : k = ls.length := by simp at h; omega
      subst hk2
      rw [List.take_length]
      refine WP.shift (Shift.frzRow 6 rfl rfl) ?_
      ((repeat apply WP.seq); apply WP.lreg; refine nM rfl rfl ?_; refine nA rfl rfl ?_; refine ALK.nil ?_; try show WP _ _ _ _ _ _)
      ((repeat apply WP.seq); refine WP.ret ?_; first | exact RetOk.one Try.results91 ResV.a | exact RetOk.tup Try.results91 rfl ResVs.a)

def swapE (l : List Txn) (n : Int) : Int := if checkTxns l = 0 then (if n < 0 ∨ l.length ≤ n + 1 then 5 else if clashB (nthT l n) (nthT l (n + 1)) then 1 else 0) else checkTxns l
def swapL (l : List Txn) (n : Int) : List Txn := if swapE l n = 0 then l.take n.toNat ++ [nthT l (n + 1), nthT l n] ++ l.drop (n.toNat + 2) else []
theorem nthT_at {l : List Txn} {n : Int} (h0 : 0 ≤ n) (h1 : n < l.length) : l[n.toNat]? = some (nthT l n) := by
  unfold nthT
  rw [List.getD_eq_getElem?_getD, List.getElem?_eq_getElem (by omega)]; rfl

set_option maxRecDepth 100000 in
theorem Swap_fn (l : List Txn) (n : Int) (hb : TxsB l) (hn0 : 0 ≤ n) (hn : n ≤ 1000) : Fn (Cfg.mk Try.prog (ttAt ttl) ttl_ok.ok mixd) 72 [txsV l, IV.int n] (IV.tup [txsV (swapL l n), IV.int (swapE l n)]) := by
  refine Fn.of_wp _ Try.func72 rfl (by kernel_rfl) Try.ntmps72 rfl ?_
  intro F hD hG
  refine WP.len 0 rfl (fun hl1 => ?_)
  ((repeat apply WP.seq); apply WP.lreg; refine nA rfl rfl ?_; refine nA rfl rfl ?_; refine ALK.nil ?_; try show WP _ _ _ _ _ _)
  ((repeat apply WP.seq); apply WP.lreg; refine nM rfl rfl ?_; refine ALK.n (opn_call (store_Txns_fn _ (by assumption)) (Evs.cons Ev.a Evs.nil)) rfl ?_; refine nA rfl rfl ?_; refine ALK.nil ?_; try show WP _ _ _ _ _ _)
  ((repeat apply WP.seq); apply WP.lreg; refine nM rfl rfl ?_; refine ALK.n OpN.cm rfl ?_; refine ALK.nil ?_; try show WP _ _ _ _ _ _)
  ((repeat apply WP.seq); refine WP.cond rfl (fun h => ?_) (fun h => ?_))
  · ((repeat apply WP.seq); apply WP.lreg; refine nM rfl rfl ?_; refine nA rfl rfl ?_; refine nA rfl rfl ?_; refine ALK.nil ?_; try show WP _ _ _ _ _ _)
    have hne : ¬ checkTxns l = 0 := by simpa using h
    have hr : swapE l n = checkTxns l := by unfold swapE; rw [if_neg hne]
    have hr2 : swapL l n = [] := by unfold swapL; rw [hr, if_neg hne]
    rw [hr2, hr]
    ((repeat apply WP.seq); refine WP.ret ?_; first | exact RetOk.one Try.results72 ResV.a | exact RetOk.tup Try.results72 rfl ResVs.a)
  (refine WP.skip ?_; show WP _ _ _ _ _ _)
  have h0 : checkTxns l = 0 := by simpa using h
  have hl := (checkTxns_zero h0).1
  ((repeat apply WP.seq); apply WP.lreg; refine nM rfl rfl ?_; refine ALK.n OpN.cm rfl ?_; refine nM rfl rfl ?_; refine gM rfl rfl rfl rfl ?_; (first | refine ALK.g (fun hb => opn_arith (eC rfl hb) (eB rfl) (arith_in rfl (by omega) (by omega))) rfl rfl rfl ?_ | refine ALK.g (fun hb => opn_arith (eC rfl hb) (eB rfl) rfl) rfl rfl rfl ?_); refine gM rfl rfl rfl rfl ?_; (first | refine ALK.g (fun hb => opn_len rfl (eC rfl hb)) rfl rfl rfl ?_ | refine ALK.g (fun hb => opn_lenRow rfl (eC rfl hb)) rfl rfl rfl ?_ | refine ALK.g (fun hb => opn_lenNil rfl (eC rfl hb)) rfl rfl rfl ?_); (first | refine ALK.g (fun hb => opn_cmp (eC rfl hb) (eC rfl hb) rfl) rfl rfl rfl ?_ | refine ALK.g (fun hb => opn_cmpB rfl (eC rfl hb) (eC rfl hb) rfl) rfl rfl rfl ?_); refine ALK.n (opn_pick_or (eB rfl) rfl rfl (fun hb2 => by first | (rw [hb2]; rfl) | (rw [hb, hb2]; rfl) | simp_all [gd])) rfl ?_; refine ALK.nil ?_; try show WP _ _ _ _ _ _)
  ((repeat apply WP.seq); refine WP.cond rfl (fun h => ?_) (fun h => ?_))
  · ((repeat apply WP.seq); apply WP.lreg; refine nA rfl rfl ?_; refine nA rfl rfl ?_; refine ALK.nil ?_; try show WP _ _ _ _ _ _)
    have hc : n < 0 ∨ l.length ≤ n + 1 := by simp at h; omega
    have hr : swapE l n = 5 := by unfold swapE; rw [if_pos h0, if_pos hc]
    have hr2 : swapL l n = [] := by unfold swapL; rw [hr]; rfl
    rw [hr2, hr]
    ((repeat apply WP.seq); refine WP.ret ?_; first | exact RetOk.one Try.results72 ResV.a | exact RetOk.tup Try.results72 rfl ResVs.a)
  (refine WP.skip ?_; show WP _ _ _ _ _ _)
  have hc : ¬ (n < 0 ∨ l.length ≤ n + 1) := by simp at h; omega
  have ha := nthT_at (l := l) (n := n) (by omega) (by omega)
  have ha2 := nthT_at (l := l) (n := n + 1) (by omega) (by omega)
  have hba := hb _ (List.mem_of_getElem? ha)
  have hba2 := hb _ (List.mem_of_getElem? ha2)
  ((repeat apply WP.seq); apply WP.ldraw; refine nM rfl rfl ?_; refine nM rfl rfl ?_; refine ALK.n OpN.ix rfl ?_; (first | refine ALK.n (opn_load rfl (eB rfl) rfl) rfl ?_ | refine ALK.r OpR.ld rfl ?_); refine nM rfl rfl ?_; refine nM rfl rfl ?_; refine ALK.n OpN.ar rfl ?_; refine ALK.n OpN.ix rfl ?_; (first | refine ALK.n (opn_load rfl (eB rfl) rfl) rfl ?_ | refine ALK.r OpR.ld rfl ?_); refine ALK.n (opn_call (By_fn (nthT l n) (nthT l (n + 1)) _ [] (fun _ => true) every_fn hba hba2) (Evs.cons Ev.a (Evs.cons Ev.a (Evs.cons Ev.a Evs.nil)))) rfl ?_; refine ALK.nilD (by kernel_rfl) ?_; try show WP _ _ _ _ _ _)
  ((repeat apply WP.seq); refine WP.cond rfl (fun h => ?_) (fun h => ?_))
  · ((repeat apply WP.seq); apply WP.lreg; refine nA rfl rfl ?_; refine nA rfl rfl ?_; refine ALK.nil ?_; try show WP _ _ _ _ _ _)
    have hr : swapE l n = 1 := by unfold swapE; rw [if_pos h0, if_neg hc, if_pos (show clashB (nthT l n) (nthT l (n + 1)) = true from h)]
    have hr2 : swapL l n = [] := by unfold swapL; rw [hr]; rfl
    rw [hr2, hr]
    ((repeat apply WP.seq); refine WP.ret ?_; first | exact RetOk.one Try.results72 ResV.a | exact RetOk.tup Try.results72 rfl ResVs.a)
  (refine WP.skip ?_; show WP _ _ _ _ _ _)
  have hr : swapE l n = 0 := by unfold swapE; rw [if_pos h0, if_neg hc, if_neg (by rw [show clashB (nthT l n) (nthT l (n + 1)) = false from h]; simp)]
  obtain ⟨m, rfl⟩ : ∃ m : Nat, n = m := ⟨n.toNat, by omega⟩
  have hr2 : swapL l m = [l.take m, [nthT l (m + 1), nthT l m], l.drop (m + 2)].flatten := by unfold swapL; rw [if_pos hr]; simp
  have hfl : [l.take m, [nthT l (m + 1), nthT l m], l.drop (m + 2)].flatten.length ≤ 1000 := by simp; omega
  ((repeat apply WP.seq); apply WP.ldraw; refine nM rfl rfl ?_; refine nM rfl rfl ?_; refine ALK.n (opn_slice (l := 0) (h := m) rfl (eB rfl) Bd.none (Bd.some (eB rfl)) (by omega) (by omega)) rfl ?_; refine nM rfl rfl ?_; refine nM rfl rfl ?_; refine ALK.n OpN.ar rfl ?_; refine ALK.n OpN.ix rfl ?_; (first | refine ALK.n (opn_load rfl (eB rfl) rfl) rfl ?_ | refine ALK.r OpR.ld rfl ?_); refine nM rfl rfl ?_; refine nM rfl rfl ?_; refine ALK.n OpN.ix rfl ?_; (first | refine ALK.n (opn_load rfl (eB rfl) rfl) rfl ?_ | refine ALK.r OpR.ld rfl ?_); refine ALK.n (opn_slit rfl rfl rfl rfl rfl rfl (Pc rfl (eB rfl) Cs.a rfl rfl (Pc rfl (eB rfl) Cs.a rfl rfl Parts.nil)) rfl) rfl ?_; refine nM rfl rfl ?_; refine nM rfl rfl ?_; refine ALK.n OpN.ar rfl ?_; refine ALK.n (opn_slice (l := m + 2) (h := l.length) rfl (eB rfl) (Bd.some (Ev.of (eB rfl) (ImOf.im (ILe.int (by omega))))) Bd.none (by omega) (by omega)) rfl ?_; refine ALK.n (opn_slit rfl rfl rfl rfl rfl rfl (Pc rfl (eB rfl) Cs.a rfl rfl (Pc rfl (eB rfl) Cs.a rfl rfl (Pc rfl (eB rfl) Cs.a rfl rfl Parts.nil))) rfl) rfl ?_; refine ALK.n (opn_call (Concat_txn_fn [l.take m, [nthT l (m + 1), nthT l m], l.drop (m + 2)] hfl) (Evs.cons (Ev.of (eB rfl) (ImOf.im (ILe.view (by show [[IV.view 3 cT (List.drop 0 (List.take m l))], [IV.view 3 (fun x => x) (chunk 3 2 _)], [IV.view 3 cT (List.drop (m + 2) (List.take l.length l))]] = [[txsV _], [txsV _], [txsV _]]; rw [List.drop_zero, List.take_length]; exact congrArg (fun q => [[txsV (l.take m)], [q], [txsV (l.drop (m + 2))]]) (view_eq rfl))))) Evs.nil)) rfl ?_; refine nA rfl rfl ?_; refine nA rfl rfl ?_; refine ALK.nilD (by kernel_rfl) ?_; try show WP _ _ _ _ _ _)
  rw [hr2, hr]
  ((repeat apply WP.seq); refine WP.ret ?_; first | exact RetOk.one Try.results72 ResV.a | exact RetOk.tup Try.results72 rfl ResVs.a)
end Go.Proofs.Ytjgmbgfcffnanaa
