/- The law SeqTrue. -/
import Derived.Test.YtjgmbgfcffnanaaSq5
namespace Go.Proofs.Ytjgmbgfcffnanaa
open Go.RowKit

theorem chooseN_is {n m : Int} (hm : 0 < m) : 0 ≤ chooseN n m ∧ chooseN n m < m := by
  unfold chooseN
  have h8 : 0 ≤ (if n < 0 then -(n + 1) else n) := by split <;> omega
  rw [Int.tmod_eq_emod_of_nonneg h8]
  exact ⟨Int.emod_nonneg _ (by omega), Int.emod_lt_of_pos _ hm⟩
def tagLt (a b : TagT) : Prop := a.epoch < b.epoch ∨ (a.epoch = b.epoch ∧ (a.site < b.site ∨ (a.site = b.site ∧ a.n < b.n)))
theorem where_at {bs : Bats} : ∀ {ps : List (Nat × Nat)} {k : Nat} {w : TagT}, (whereL bs ps)[k]? = some w → ∃ (i e n : Nat) (b : List (List Txn)) (l : List Txn) (t : Txn), w = ⟨i, e, n⟩ ∧ bs[i]? = some b ∧ b[e]? = some l ∧ l[n]? = some t ∧ (mergeL bs ps)[k]? = some t
  | [], k, w, h => by simp [whereL] at h
  | p :: ps, k, w, h => by
    have h1 : whereL bs (p :: ps) = tagsOf p (batAt bs p).length ++ whereL bs ps := by simp [whereL]
    have h2 : mergeL bs (p :: ps) = batAt bs p ++ mergeL bs ps := by simp [mergeL]
    rw [h1] at h
    rw [h2]
    have hl : (tagsOf p (batAt bs p).length).length = (batAt bs p).length := by simp [tagsOf]
    rcases Nat.lt_or_ge k (batAt bs p).length with hk | hk
    · rw [List.getElem?_append_left (by omega)] at h
      rw [List.getElem?_append_left hk]
      unfold tagsOf at h
      rw [List.getElem?_map, List.getElem?_range hk] at h
      simp only [Option.map_some, Option.some.injEq] at h
      obtain ⟨t, ht⟩ := get_at hk
      have hb : ∃ b l, bs[p.1]? = some b ∧ b[p.2]? = some l ∧ batAt bs p = l := by
        unfold batAt at hk ⊢
        cases e : bs[p.1]? with
        | none => rw [e] at hk; simp at hk
        | some b =>
          rw [e] at hk
          simp only [Option.getD_some] at hk ⊢
          cases e2 : b[p.2]? with
          | none => rw [e2] at hk; simp at hk
          | some l => exact ⟨b, l, rfl, e2, rfl⟩
      obtain ⟨b, l, e1, e2, e3⟩ := hb
      exact ⟨p.1, p.2, k, b, l, t, h.symm, e1, e2, by rw [← e3]; exact ht, ht⟩
    · rw [List.getElem?_append_right (by omega), hl] at h
      obtain ⟨i, e, n, b, l, t, r1, r2, r3, r4, r5⟩ := where_at h
      exact ⟨i, e, n, b, l, t, r1, r2, r3, r4, by rw [List.getElem?_append_right hk]; exact r5⟩
theorem siteTo_mem {bs : Bats} {e n : Nat} {p : Nat × Nat} (h : p ∈ siteTo bs e n) : p.2 = e ∧ p.1 < n := by
  unfold siteTo at h
  rw [List.mem_flatMap] at h
  obtain ⟨i, hi, hp⟩ := h
  split at hp
  · simp at hp; subst hp; exact ⟨rfl, List.mem_range.1 hi⟩
  · cases hp
theorem epochTo_mem {bs : Bats} {n : Nat} {p : Nat × Nat} (h : p ∈ epochTo bs n) : p.2 < n := by
  unfold epochTo at h
  rw [List.mem_flatMap] at h
  obtain ⟨e, he, hp⟩ := h
  have := (siteTo_mem hp).1
  have := List.mem_range.1 he
  omega
def bLt (a b : Nat × Nat) : Prop := a.2 < b.2 ∨ (a.2 = b.2 ∧ a.1 < b.1)
theorem siteTo_sorted (bs : Bats) (e : Nat) : ∀ n, (siteTo bs e n).Pairwise bLt
  | 0 => List.Pairwise.nil
  | n + 1 => by
    rw [siteTo_next, List.pairwise_append]
    refine ⟨siteTo_sorted bs e n, by split <;> simp, fun a ha b hb => ?_⟩
    split at hb
    · simp at hb
      subst hb
      have := siteTo_mem ha
      exact .inr ⟨this.1, this.2⟩
    · cases hb
theorem epochTo_sorted (bs : Bats) : ∀ n, (epochTo bs n).Pairwise bLt
  | 0 => List.Pairwise.nil
  | n + 1 => by
    rw [epochTo_next, List.pairwise_append]
    refine ⟨epochTo_sorted bs n, siteTo_sorted bs n _, fun a ha b hb => ?_⟩
    have h1 := epochTo_mem ha
    have h2 := (siteTo_mem hb).1
    exact .inl (by omega)
theorem where_sorted (bs : Bats) : (whereL bs (allB bs)).Pairwise tagLt := by
  unfold whereL
  rw [List.pairwise_flatMap]
  refine ⟨fun p _ => ?_, (epochTo_sorted bs 6).imp fun {a b} hab x hx y hy => ?_⟩
  · unfold tagsOf
    rw [List.pairwise_map]
    refine List.pairwise_lt_range.imp fun {a b} h => ?_
    exact .inr ⟨rfl, .inr ⟨rfl, by show (a : Int) < b; omega⟩⟩
  · unfold tagsOf at hx hy
    rw [List.mem_map] at hx hy
    obtain ⟨i, _, rfl⟩ := hx
    obtain ⟨j, _, rfl⟩ := hy
    rcases hab with h | ⟨h1, h2⟩
    · exact .inl (by show (a.2 : Int) < b.2; omega)
    · exact .inr ⟨by show (a.2 : Int) = b.2; omega, .inl (by show (a.1 : Int) < b.1; omega)⟩
theorem tag_before {bs : Bats} {p q : Nat} {a b : TagT} (ha : (whereL bs (allB bs))[p]? = some a) (hb : (whereL bs (allB bs))[q]? = some b) (hne : p ≠ q) : tagLt a b ↔ p < q := by
  have hs := where_sorted bs
  rw [List.pairwise_iff_getElem] at hs
  obtain ⟨hp1, hp2⟩ := List.getElem?_eq_some_iff.1 ha
  obtain ⟨hq1, hq2⟩ := List.getElem?_eq_some_iff.1 hb
  constructor
  · intro h
    rcases Nat.lt_or_ge p q with h1 | h1
    · exact h1
    · exfalso
      have h2 := hs q p hq1 hp1 (by omega)
      rw [hp2, hq2] at h2
      unfold tagLt at h h2
      omega
  · intro h
    have h2 := hs p q hp1 hq1 h
    rwa [hp2, hq2] at h2
theorem take_drop1 {α : Type} {l : List α} {k : Nat} {x : α} (h : l[k]? = some x) : (l.take (k + 1)).drop k = [x] := by
  obtain ⟨h1, h2⟩ := List.getElem?_eq_some_iff.1 h
  rw [List.drop_take, Nat.add_sub_cancel_left, List.drop_eq_getElem_cons h1, h2]
  rfl

set_option maxRecDepth 100000 in
set_option maxHeartbeats 1000000 in
theorem SeqTrue_fn (bs : Bats) (n m : Int) (hbb : BatsB bs) (hn : I64 n) (hm : I64 m) : Fn (Cfg.mk Try.prog (ttAt ttl) ttl_ok.ok mixd) 7 [batsV bs, IV.int n, IV.int m] (IV.bool true) := by
  refine Fn.of_wp _ Try.func7 rfl (by kernel_rfl) Try.ntmps7 rfl ?_
  intro F hD hG
  ((repeat apply WP.seq); apply WP.lreg; refine nA rfl rfl ?_; refine ALK.nil ?_; try show WP _ _ _ _ _ _)
  ((repeat apply WP.seq); apply WP.lreg; refine nM rfl rfl ?_; refine ALK.n (opn_call (Merge_fn bs hbb) (Evs.cons Ev.a Evs.nil)) rfl ?_; refine nM rfl rfl ?_; refine nX rfl rfl rfl ?_; refine nX rfl rfl rfl ?_; refine nA rfl rfl ?_; refine nA rfl rfl ?_; refine ALK.nil ?_; try show WP _ _ _ _ _ _)
  ((repeat apply WP.seq); apply WP.lreg; refine nM rfl rfl ?_; refine ALK.n OpN.cm rfl ?_; refine nM rfl rfl ?_; refine gM rfl rfl rfl rfl ?_; (first | refine ALK.g (fun hb => opn_len rfl (eC rfl hb)) rfl rfl rfl ?_ | refine ALK.g (fun hb => opn_lenRow rfl (eC rfl hb)) rfl rfl rfl ?_ | refine ALK.g (fun hb => opn_lenNil rfl (eC rfl hb)) rfl rfl rfl ?_); (first | refine ALK.g (fun hb => opn_cmp (eC rfl hb) (eB rfl) rfl) rfl rfl rfl ?_ | refine ALK.g (fun hb => opn_cmpB rfl (eC rfl hb) (eB rfl) rfl) rfl rfl rfl ?_); refine ALK.n (opn_pick_or (eB rfl) rfl rfl (fun hb2 => by first | (rw [hb2]; rfl) | (rw [hb, hb2]; rfl) | simp_all [gd])) rfl ?_; refine ALK.nil ?_; try show WP _ _ _ _ _ _)
  ((repeat apply WP.seq); refine WP.cond rfl (fun h => ?_) (fun h => ?_))
  · ((repeat apply WP.seq); apply WP.lreg; refine ALK.n (opn_call seqBegun_fn Evs.nil) rfl ?_; refine nA rfl rfl ?_; refine ALK.nil ?_; try show WP _ _ _ _ _ _)
    ((repeat apply WP.seq); refine WP.ret ?_; first | exact RetOk.one Try.results7 ResV.a | exact RetOk.tup Try.results7 rfl ResVs.a)
  (refine WP.skip ?_; show WP _ _ _ _ _ _)
  have hc : seqE bs = 0 ∧ ¬ mergeB bs = [] := by simpa using h
  obtain ⟨h0, hne⟩ := hc
  obtain ⟨h3, hl8⟩ := bound8 h0
  have hM : mergeB bs = mergeL bs (allB bs) := by unfold mergeB; rw [if_pos h0]
  have hW : whereB bs = whereL bs (allB bs) := by unfold whereB; rw [if_pos h0]
  have hML := mergeL_bound hl8 (allB bs)
  have hal := allB_len bs h3
  have hwl := whereL_len bs (allB bs)
  have hpos : (0 : Int) < ((mergeB bs).length : Int) := by have := List.length_pos_iff.2 hne; omega
  obtain ⟨p0, p1⟩ := chooseN_is (n := n) hpos
  obtain ⟨q0, q1⟩ := chooseN_is (n := m) hpos
  obtain ⟨p, hp⟩ : ∃ p : Nat, (p : Int) = chooseN n (mergeB bs).length := ⟨(chooseN n (mergeB bs).length).toNat, by omega⟩
  obtain ⟨q, hq⟩ : ∃ q : Nat, (q : Int) = chooseN m (mergeB bs).length := ⟨(chooseN m (mergeB bs).length).toNat, by omega⟩
  ((repeat apply WP.seq); apply WP.lreg; refine nM rfl rfl ?_; refine nM rfl rfl ?_; refine ALK.n OpN.ln rfl ?_; refine ALK.n (opn_call (choose_fn n (mergeB bs).length hn hpos) (Evs.cons Ev.a (Evs.cons Ev.a Evs.nil))) rfl ?_; refine nM rfl rfl ?_; refine nM rfl rfl ?_; refine ALK.n OpN.ln rfl ?_; refine ALK.n (opn_call (choose_fn m (mergeB bs).length hm hpos) (Evs.cons Ev.a (Evs.cons Ev.a Evs.nil))) rfl ?_; refine nA rfl rfl ?_; refine nA rfl rfl ?_; refine ALK.nil ?_; try show WP _ _ _ _ _ _)
  rw [← hp] at p0 p1 ⊢
  rw [← hq] at q0 q1 ⊢
  rw [hM] at p1 q1 ⊢
  obtain ⟨wp, hwp⟩ := get_at (xs := whereL bs (allB bs)) (k := p) (by omega)
  obtain ⟨wq, hwq⟩ := get_at (xs := whereL bs (allB bs)) (k := q) (by omega)
  have fp : fromB bs p = (wp, 0) := by unfold fromB; rw [if_pos h0, if_neg (by omega), hW]; show (match (whereL bs (allB bs))[p]? with | some w => (w, (0 : Int)) | none => (⟨0, 0, 0⟩, 5)) = _; rw [hwp]
  have fq : fromB bs q = (wq, 0) := by unfold fromB; rw [if_pos h0, if_neg (by omega), hW]; show (match (whereL bs (allB bs))[q]? with | some w => (w, (0 : Int)) | none => (⟨0, 0, 0⟩, 5)) = _; rw [hwq]
  have ip : I64 (p : Int) := by unfold I64; omega
  have iq : I64 (q : Int) := by unfold I64; omega
  obtain ⟨i, e, k, b, l, t, rfl, hbi, hle, hlk, hmt⟩ := where_at hwp
  obtain ⟨i2, e2, k2, b2, l2, t2, rfl, _, _, _, _⟩ := where_at hwq
  have F1 : Fn (Cfg.mk Try.prog (ttAt ttl) ttl_ok.ok mixd) 24 [batsV bs, IV.int p] (IV.tup [IV.int i, IV.int e, IV.int k, IV.int 0]) := by
    have := From_fn bs p hbb ip
    rw [fp] at this
    exact this
  have F2 : Fn (Cfg.mk Try.prog (ttAt ttl) ttl_ok.ok mixd) 24 [batsV bs, IV.int q] (IV.tup [IV.int i2, IV.int e2, IV.int k2, IV.int 0]) := by
    have := From_fn bs q hbb iq
    rw [fq] at this
    exact this
  ((repeat apply WP.seq); apply WP.lreg; refine nM rfl rfl ?_; refine nM rfl rfl ?_; refine ALK.n (opn_call F1 (Evs.cons Ev.a (Evs.cons Ev.a Evs.nil))) rfl ?_; refine nM rfl rfl ?_; refine nX rfl rfl rfl ?_; refine nX rfl rfl rfl ?_; refine nX rfl rfl rfl ?_; refine nX rfl rfl rfl ?_; refine nA rfl rfl ?_; refine nA rfl rfl ?_; refine nA rfl rfl ?_; refine nA rfl rfl ?_; refine ALK.nil ?_; try show WP _ _ _ _ _ _)
  ((repeat apply WP.seq); apply WP.lreg; refine nM rfl rfl ?_; refine nM rfl rfl ?_; refine ALK.n (opn_call F2 (Evs.cons Ev.a (Evs.cons Ev.a Evs.nil))) rfl ?_; refine nM rfl rfl ?_; refine nX rfl rfl rfl ?_; refine nX rfl rfl rfl ?_; refine nX rfl rfl rfl ?_; refine nX rfl rfl rfl ?_; refine nA rfl rfl ?_; refine nA rfl rfl ?_; refine nA rfl rfl ?_; refine nA rfl rfl ?_; refine ALK.nil ?_; try show WP _ _ _ _ _ _)
  have hi1 : bs[((i : Nat) : Int).toNat]? = some b := hbi
  have hi2 : b[((e : Nat) : Int).toNat]? = some l := hle
  have hx1 := (List.getElem?_eq_some_iff.1 hbi).1
  have hx2 := (List.getElem?_eq_some_iff.1 hle).1
  have hx3 := (List.getElem?_eq_some_iff.1 hlk).1
  have hll := hl8 b (List.mem_of_getElem? hbi) l (List.mem_of_getElem? hle)
  ((repeat apply WP.seq); apply WP.lreg; refine nM rfl rfl ?_; refine ALK.n OpN.cm rfl ?_; refine nM rfl rfl ?_; refine gM rfl rfl rfl rfl ?_; (first | refine ALK.g (fun hb => opn_cmp (eC rfl hb) (eB rfl) rfl) rfl rfl rfl ?_ | refine ALK.g (fun hb => opn_cmpB rfl (eC rfl hb) (eB rfl) rfl) rfl rfl rfl ?_); refine ALK.n (opn_pick_or (eB rfl) rfl rfl (fun hb2 => by first | (rw [hb2]; rfl) | (rw [hb, hb2]; rfl) | simp_all [gd])) rfl ?_; refine nM rfl rfl ?_; refine gM rfl rfl rfl rfl ?_; (first | refine ALK.g (fun hb => opn_cmp (eC rfl hb) (eB rfl) rfl) rfl rfl rfl ?_ | refine ALK.g (fun hb => opn_cmpB rfl (eC rfl hb) (eB rfl) rfl) rfl rfl rfl ?_); refine ALK.n (opn_pick_or (eB rfl) rfl rfl (fun hb2 => by first | (rw [hb2]; rfl) | (rw [hb, hb2]; rfl) | simp_all [gd])) rfl ?_; refine nM rfl rfl ?_; refine gM rfl rfl rfl rfl ?_; refine gM rfl rfl rfl rfl ?_; (first | refine ALK.g (fun hb => opn_len rfl (eC rfl hb)) rfl rfl rfl ?_ | refine ALK.g (fun hb => opn_lenRow rfl (eC rfl hb)) rfl rfl rfl ?_ | refine ALK.g (fun hb => opn_lenNil rfl (eC rfl hb)) rfl rfl rfl ?_); (first | refine ALK.g (fun hb => opn_cmp (eC rfl hb) (eC rfl hb) rfl) rfl rfl rfl ?_ | refine ALK.g (fun hb => opn_cmpB rfl (eC rfl hb) (eC rfl hb) rfl) rfl rfl rfl ?_); refine ALK.n (opn_pick_or (eB rfl) rfl rfl (fun hb2 => by first | (rw [hb2]; rfl) | (rw [hb, hb2]; rfl) | simp_all [gd])) rfl ?_; refine nM rfl rfl ?_; refine gM rfl rfl rfl rfl ?_; (first | refine ALK.g (fun hb => opn_cmp (eC rfl hb) (eB rfl) rfl) rfl rfl rfl ?_ | refine ALK.g (fun hb => opn_cmpB rfl (eC rfl hb) (eB rfl) rfl) rfl rfl rfl ?_); refine ALK.n (opn_pick_or (eB rfl) rfl rfl (fun hb2 => by first | (rw [hb2]; rfl) | (rw [hb, hb2]; rfl) | simp_all [gd])) rfl ?_; refine nM rfl rfl ?_; refine gM rfl rfl rfl rfl ?_; refine gM rfl rfl rfl rfl ?_; refine gM rfl rfl rfl rfl ?_; (first | refine ALK.g (fun hb => opn_index rfl (eC rfl hb) (eC rfl hb) (by omega) (by assumption)) rfl rfl rfl ?_ | refine ALK.g (fun hb => opn_indexRow1 rfl (eC rfl hb) (eC rfl hb) (by omega) (by omega)) rfl rfl rfl ?_ | refine ALK.g (fun hb => opn_indexRow rfl (eC rfl hb) (eC rfl hb) (by omega) (by omega)) rfl rfl rfl ?_ | refine ALK.g (fun hb => opn_indexArr rfl (eC rfl hb) (eC rfl hb) (by omega) (by omega)) rfl rfl rfl ?_ | refine ALK.g (fun hb => opn_indexArrI rfl (eC rfl hb) (eC rfl hb) (by omega) (by omega)) rfl rfl rfl ?_); (first | refine ALK.g (fun hb => opn_load rfl (eC rfl hb) rfl) rfl rfl rfl ?_ | refine ALK.rg (fun hb => opr_load rfl (eC rfl hb) rfl rfl) rfl rfl rfl ?_ | refine ALK.rg (fun hb => opr_loadRow rfl rfl (eC rfl hb) rfl (by assumption) rfl) rfl rfl rfl ?_ | refine ALK.rg (fun hb => opr_loadK0 rfl (eC rfl hb) rfl (by assumption) rfl) rfl rfl rfl ?_ | refine ALK.rg (fun hb => opr_loadK rfl (eC rfl hb) rfl (by assumption) rfl) rfl rfl rfl ?_); (first | refine ALK.g (fun hb => opn_len rfl (eC rfl hb)) rfl rfl rfl ?_ | refine ALK.g (fun hb => opn_lenRow rfl (eC rfl hb)) rfl rfl rfl ?_ | refine ALK.g (fun hb => opn_lenNil rfl (eC rfl hb)) rfl rfl rfl ?_); (first | refine ALK.g (fun hb => opn_cmp (eC rfl hb) (eC rfl hb) rfl) rfl rfl rfl ?_ | refine ALK.g (fun hb => opn_cmpB rfl (eC rfl hb) (eC rfl hb) rfl) rfl rfl rfl ?_); refine ALK.n (opn_pick_or (eB rfl) rfl rfl (fun hb2 => by first | (rw [hb2]; rfl) | (rw [hb, hb2]; rfl) | simp_all [gd])) rfl ?_; refine nM rfl rfl ?_; refine gM rfl rfl rfl rfl ?_; (first | refine ALK.g (fun hb => opn_cmp (eC rfl hb) (eB rfl) rfl) rfl rfl rfl ?_ | refine ALK.g (fun hb => opn_cmpB rfl (eC rfl hb) (eB rfl) rfl) rfl rfl rfl ?_); refine ALK.n (opn_pick_or (eB rfl) rfl rfl (fun hb2 => by first | (rw [hb2]; rfl) | (rw [hb, hb2]; rfl) | simp_all [gd])) rfl ?_; refine nM rfl rfl ?_; refine gM rfl rfl rfl rfl ?_; refine gM rfl rfl rfl rfl ?_; refine gM rfl rfl rfl rfl ?_; (first | refine ALK.g (fun hb => opn_index rfl (eC rfl hb) (eC rfl hb) (by omega) (by assumption)) rfl rfl rfl ?_ | refine ALK.g (fun hb => opn_indexRow1 rfl (eC rfl hb) (eC rfl hb) (by omega) (by omega)) rfl rfl rfl ?_ | refine ALK.g (fun hb => opn_indexRow rfl (eC rfl hb) (eC rfl hb) (by omega) (by omega)) rfl rfl rfl ?_ | refine ALK.g (fun hb => opn_indexArr rfl (eC rfl hb) (eC rfl hb) (by omega) (by omega)) rfl rfl rfl ?_ | refine ALK.g (fun hb => opn_indexArrI rfl (eC rfl hb) (eC rfl hb) (by omega) (by omega)) rfl rfl rfl ?_); (first | refine ALK.g (fun hb => opn_load rfl (eC rfl hb) rfl) rfl rfl rfl ?_ | refine ALK.rg (fun hb => opr_load rfl (eC rfl hb) rfl rfl) rfl rfl rfl ?_ | refine ALK.rg (fun hb => opr_loadRow rfl rfl (eC rfl hb) rfl (by assumption) rfl) rfl rfl rfl ?_ | refine ALK.rg (fun hb => opr_loadK0 rfl (eC rfl hb) rfl (by assumption) rfl) rfl rfl rfl ?_ | refine ALK.rg (fun hb => opr_loadK rfl (eC rfl hb) rfl (by assumption) rfl) rfl rfl rfl ?_); refine gM rfl rfl rfl rfl ?_; (first | refine ALK.g (fun hb => opn_index rfl (eC rfl hb) (eC rfl hb) (by omega) (by assumption)) rfl rfl rfl ?_ | refine ALK.g (fun hb => opn_indexRow1 rfl (eC rfl hb) (eC rfl hb) (by omega) (by omega)) rfl rfl rfl ?_ | refine ALK.g (fun hb => opn_indexRow rfl (eC rfl hb) (eC rfl hb) (by omega) (by omega)) rfl rfl rfl ?_ | refine ALK.g (fun hb => opn_indexArr rfl (eC rfl hb) (eC rfl hb) (by omega) (by omega)) rfl rfl rfl ?_ | refine ALK.g (fun hb => opn_indexArrI rfl (eC rfl hb) (eC rfl hb) (by omega) (by omega)) rfl rfl rfl ?_); (first | refine ALK.g (fun hb => opn_load rfl (eC rfl hb) rfl) rfl rfl rfl ?_ | refine ALK.rg (fun hb => opr_load rfl (eC rfl hb) rfl rfl) rfl rfl rfl ?_ | refine ALK.rg (fun hb => opr_loadRow rfl rfl (eC rfl hb) rfl (by assumption) rfl) rfl rfl rfl ?_ | refine ALK.rg (fun hb => opr_loadK0 rfl (eC rfl hb) rfl (by assumption) rfl) rfl rfl rfl ?_ | refine ALK.rg (fun hb => opr_loadK rfl (eC rfl hb) rfl (by assumption) rfl) rfl rfl rfl ?_); (first | refine ALK.g (fun hb => opn_len rfl (eC rfl hb)) rfl rfl rfl ?_ | refine ALK.g (fun hb => opn_lenRow rfl (eC rfl hb)) rfl rfl rfl ?_ | refine ALK.g (fun hb => opn_lenNil rfl (eC rfl hb)) rfl rfl rfl ?_); (first | refine ALK.g (fun hb => opn_cmp (eC rfl hb) (eC rfl hb) rfl) rfl rfl rfl ?_ | refine ALK.g (fun hb => opn_cmpB rfl (eC rfl hb) (eC rfl hb) rfl) rfl rfl rfl ?_); refine ALK.n (opn_pick_or (eB rfl) rfl rfl (fun hb2 => by first | (rw [hb2]; rfl) | (rw [hb, hb2]; rfl) | simp_all [gd])) rfl ?_; refine ALK.nil ?_; try show WP _ _ _ _ _ _)
  ((repeat apply WP.seq); refine WP.cond rfl (fun h => ?_) (fun h => ?_))
  · exfalso
    simp at h
    omega
  (refine WP.skip ?_; show WP _ _ _ _ _ _)
  ((repeat apply WP.seq); apply WP.ldraw; refine nM rfl rfl ?_; refine nM rfl rfl ?_; refine nM rfl rfl ?_; refine ALK.n OpN.ar rfl ?_; refine ALK.n (opn_slice (l := p) (h := p + 1) rfl (eB rfl) (Bd.some (eB rfl)) (Bd.some (Ev.of (eB rfl) (ImOf.im (ILe.int (by omega))))) (by omega) (by omega)) rfl ?_; refine nM rfl rfl ?_; refine nM rfl rfl ?_; refine ALK.n OpN.ix rfl ?_; (first | refine ALK.n (opn_load rfl (eB rfl) rfl) rfl ?_ | refine ALK.r OpR.ld rfl ?_); refine nM rfl rfl ?_; refine ALK.n OpN.ix rfl ?_; (first | refine ALK.n (opn_load rfl (eB rfl) rfl) rfl ?_ | refine ALK.r OpR.ld rfl ?_); refine nM rfl rfl ?_; refine nM rfl rfl ?_; refine ALK.n OpN.ar rfl ?_; refine ALK.n (opn_slice (l := k) (h := k + 1) rfl (eB rfl) (Bd.some (eB rfl)) (Bd.some (Ev.of (eB rfl) (ImOf.im (ILe.int (by omega))))) (by omega) (by omega)) rfl ?_; refine ALK.n (opn_call (SameTxns_fn _ _) (Evs.cons Ev.a (Evs.cons Ev.a Evs.nil))) rfl ?_; refine ALK.n (opn_not (eB rfl)) rfl ?_; refine ALK.nilD (by kernel_rfl) ?_; try show WP _ _ _ _ _ _)
  rw [take_drop1 hmt, take_drop1 hlk]
  ((repeat apply WP.seq); refine WP.cond rfl (fun h => ?_) (fun h => ?_))
  · exfalso
    simp at h
  (refine WP.skip ?_; show WP _ _ _ _ _ _)
  ((repeat apply WP.seq); apply WP.lreg; refine nM rfl rfl ?_; refine nM rfl rfl ?_; refine ALK.n OpN.cm rfl ?_; refine ALK.nil ?_; try show WP _ _ _ _ _ _)
  ((repeat apply WP.seq); refine WP.cond rfl (fun h => ?_) (fun h => ?_))
  · have hpq : p = q := by simp at h; omega
    subst hpq
    rw [hwp] at hwq
    injection hwq with hwq
    injection hwq with w1 w2 w3
    ((repeat apply WP.seq); apply WP.lreg; refine ALK.n (opn_call seqBegun_fn Evs.nil) rfl ?_; refine nM rfl rfl ?_; refine gM rfl rfl rfl rfl ?_; refine gM rfl rfl rfl rfl ?_; (first | refine ALK.g (fun hb => opn_cmp (eC rfl hb) (eC rfl hb) rfl) rfl rfl rfl ?_ | refine ALK.g (fun hb => opn_cmpB rfl (eC rfl hb) (eC rfl hb) rfl) rfl rfl rfl ?_); refine ALK.n (opn_pick_and (eB rfl) rfl (fun hb2 => by first | exact hb2 | (rw [hb, hb2]; rfl) | simp_all [gd]) rfl) rfl ?_; refine nM rfl rfl ?_; refine gM rfl rfl rfl rfl ?_; refine gM rfl rfl rfl rfl ?_; (first | refine ALK.g (fun hb => opn_cmp (eC rfl hb) (eC rfl hb) rfl) rfl rfl rfl ?_ | refine ALK.g (fun hb => opn_cmpB rfl (eC rfl hb) (eC rfl hb) rfl) rfl rfl rfl ?_); refine ALK.n (opn_pick_and (eB rfl) rfl (fun hb2 => by first | exact hb2 | (rw [hb, hb2]; rfl) | simp_all [gd]) rfl) rfl ?_; refine nM rfl rfl ?_; refine gM rfl rfl rfl rfl ?_; refine gM rfl rfl rfl rfl ?_; (first | refine ALK.g (fun hb => opn_cmp (eC rfl hb) (eC rfl hb) rfl) rfl rfl rfl ?_ | refine ALK.g (fun hb => opn_cmpB rfl (eC rfl hb) (eC rfl hb) rfl) rfl rfl rfl ?_); refine ALK.n (opn_pick_and (eB rfl) rfl (fun hb2 => by first | exact hb2 | (rw [hb, hb2]; rfl) | simp_all [gd]) rfl) rfl ?_; refine nA rfl rfl ?_; refine ALK.nil ?_; try show WP _ _ _ _ _ _)
    refine WP.ret ?_
    refine RetOk.one Try.results7 (ResV.tmp rfl (ImOf.im (ILe.bool ?_)))
    simp [w1, w2, w3]
  (refine WP.skip ?_; show WP _ _ _ _ _ _)
  have hpq : p ≠ q := by simp at h; omega
  have hbef := tag_before hwp hwq hpq
  unfold tagLt at hbef
  simp only at hbef
  ((repeat apply WP.seq); apply WP.lreg; refine nM rfl rfl ?_; refine nM rfl rfl ?_; refine ALK.n OpN.cm rfl ?_; refine nM rfl rfl ?_; refine gM rfl rfl rfl rfl ?_; refine gM rfl rfl rfl rfl ?_; (first | refine ALK.g (fun hb => opn_cmp (eC rfl hb) (eC rfl hb) rfl) rfl rfl rfl ?_ | refine ALK.g (fun hb => opn_cmpB rfl (eC rfl hb) (eC rfl hb) rfl) rfl rfl rfl ?_); refine ALK.g (fun hb => opn_move (eC rfl hb)) rfl rfl rfl ?_; refine ALK.g2 (fun hb => opn_move (eB rfl)) rfl rfl rfl ?_; refine ALK.g2 (fun hb => opn_move (eB rfl)) rfl rfl rfl ?_; (first | refine ALK.g2 (fun hb => opn_cmp (eC rfl hb) (eC rfl hb) rfl) rfl rfl rfl ?_ | refine ALK.g2 (fun hb => opn_cmpB rfl (eC rfl hb) (eC rfl hb) rfl) rfl rfl rfl ?_); refine ALK.g2 (fun hb => opn_move (eC rfl hb)) rfl rfl rfl ?_; refine ALK.g2 (fun hb => opn_move (eB rfl)) rfl rfl rfl ?_; refine ALK.g2 (fun hb => opn_move (eB rfl)) rfl rfl rfl ?_; (first | refine ALK.g2 (fun hb => opn_cmp (eC rfl hb) (eC rfl hb) rfl) rfl rfl rfl ?_ | refine ALK.g2 (fun hb => opn_cmpB rfl (eC rfl hb) (eC rfl hb) rfl) rfl rfl rfl ?_); refine ALK.g2 (fun hb => opn_move (eC rfl hb)) rfl rfl rfl ?_; refine ALK.g2 (fun hb => opn_move (eB rfl)) rfl rfl rfl ?_; refine ALK.g2 (fun hb => opn_move (eB rfl)) rfl rfl rfl ?_; (first | refine ALK.g2 (fun hb => opn_cmp (eC rfl hb) (eC rfl hb) rfl) rfl rfl rfl ?_ | refine ALK.g2 (fun hb => opn_cmpB rfl (eC rfl hb) (eC rfl hb) rfl) rfl rfl rfl ?_); refine ALK.g2 (fun hb => opn_pick_and (eC rfl hb) rfl (fun hb2 => by first | exact hb2 | (rw [hb, hb2]; rfl) | simp_all [gd]) rfl) rfl rfl rfl ?_; refine ALK.g2 (fun hb => opn_pick_or (eC rfl hb) rfl rfl (fun hb2 => by first | (rw [hb2]; rfl) | (rw [hb, hb2]; rfl) | simp_all [gd])) rfl rfl rfl ?_; refine ALK.g (fun hb => opn_pick_and (eC rfl hb) rfl (fun hb2 => by first | exact hb2 | (rw [hb, hb2]; rfl) | simp_all [gd]) rfl) rfl rfl rfl ?_; refine ALK.n (opn_pick_or (eB rfl) rfl rfl (fun hb2 => by first | (rw [hb2]; rfl) | (rw [hb, hb2]; rfl) | simp_all [gd])) rfl ?_; refine nA rfl rfl ?_; refine ALK.nil ?_; try show WP _ _ _ _ _ _)
  ((repeat apply WP.seq); apply WP.lreg; refine ALK.n (opn_call seqBegun_fn Evs.nil) rfl ?_; refine nM rfl rfl ?_; refine gM rfl rfl rfl rfl ?_; refine gM rfl rfl rfl rfl ?_; refine gM rfl rfl rfl rfl ?_; (first | refine ALK.g (fun hb => opn_cmp (eC rfl hb) (eC rfl hb) rfl) rfl rfl rfl ?_ | refine ALK.g (fun hb => opn_cmpB rfl (eC rfl hb) (eC rfl hb) rfl) rfl rfl rfl ?_); (first | refine ALK.g (fun hb => opn_cmp (eC rfl hb) (eC rfl hb) rfl) rfl rfl rfl ?_ | refine ALK.g (fun hb => opn_cmpB rfl (eC rfl hb) (eC rfl hb) rfl) rfl rfl rfl ?_); refine ALK.n (opn_pick_and (eB rfl) rfl (fun hb2 => by first | exact hb2 | (rw [hb, hb2]; rfl) | simp_all [gd]) rfl) rfl ?_; refine nA rfl rfl ?_; refine ALK.nil ?_; try show WP _ _ _ _ _ _)
  refine WP.ret ?_
  refine RetOk.one Try.results7 (ResV.tmp rfl (ImOf.im (ILe.bool ?_)))

  rw [Bool.true_and, beq_iff_eq, Bool.eq_iff_iff]
  simp only [Bool.or_eq_true, Bool.and_eq_true, decide_eq_true_eq, beq_iff_eq]
  rw [hbef]
  omega
end Go.Proofs.Ytjgmbgfcffnanaa
