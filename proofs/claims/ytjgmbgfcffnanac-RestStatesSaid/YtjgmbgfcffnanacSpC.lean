/- Of two steps that may be it does not matter which is done first; how many there are. In plain Lean. -/
import Derived.Test.YtjgmbgfcffnanacSpB
namespace Go.Proofs.Ytjgmbgfcffnanac

theorem free_mono {p : Plan} {s : StT} {kind : Int} {n k j q : Nat} (v : Valid p s) (h : Step p s kind n k) (hf : freeB p s j q = true) : freeB p (turnS p s kind n k) j q = true := by
  unfold freeB at hf ⊢
  rw [List.all_eq_true] at hf ⊢
  intro i hi
  have := hf i hi
  rw [Bool.or_eq_true] at this ⊢
  exact this.imp (gone_mono v h) id
theorem Step.next {p : Plan} {s : StT} {kx ky : Int} {n k n' k' : Nat} (v : Valid p s) (hx : Step p s kx n k) (hy : Step p s ky n' k') (hne : ¬ (kx = ky ∧ n = n' ∧ k = k')) : Step p (turnS p s kx n k) ky n' k' := by
  refine ⟨hy.kd, hy.hn, hy.hk, ?_⟩
  rcases hy.kd with rfl | rfl
  · obtain ⟨h1, h2, h3⟩ := hy.rd
    unfold mayB
    rw [if_pos rfl, h1, free_mono v hx h3]
    have : bAt (turnS p s kx n k).rd n' k' = false := by
      rcases hx.kd with rfl | rfl
      · rw [turn_rd v hx, if_neg (fun e => hne ⟨rfl, e.1, e.2⟩)]; exact h2
      · rw [turn2]; exact h2
    rw [this]; rfl
  · obtain ⟨h1, h2, h3⟩ := hy.wr
    unfold mayB
    rw [if_neg (by decide), h1]
    have e1 : allB p (turnS p s kx n k) n' = true := allB_mono (fun q hq => by
      rcases hx.kd with rfl | rfl
      · rw [turn_rd v hx]; split; rfl; exact hq
      · rw [turn2]; exact hq) h3
    have : bAt (turnS p s kx n k).wr n' k' = false := by
      rcases hx.kd with rfl | rfl
      · rw [turn1]; exact h2
      · rw [turn_wr v hx, if_neg (fun e => hne ⟨rfl, e.1, e.2⟩)]; exact h2
    rw [e1, this]; rfl
theorem set2_comm {α : Type} {l : List (List α)} {n k n' k' : Nat} {x y : α} (h : ¬ (n = n' ∧ k = k')) : set2 (set2 l n k x) n' k' y = set2 (set2 l n' k' y) n k x := by
  unfold set2
  by_cases e : n = n'
  · subst e
    have hk : k ≠ k' := fun e => h ⟨rfl, e⟩
    by_cases hn : n < l.length
    · rw [getD_set_at hn, getD_set_at hn, if_pos rfl, if_pos rfl, List.set_set, List.set_set, List.set_comm _ _ hk]
    · simp only [List.set_eq_of_length_le (show l.length ≤ n by omega)]
  · have h1 : (l.set n ((l.getD n []).set k x)).getD n' [] = l.getD n' [] := by simp only [List.getD_eq_getElem?_getD, List.getElem?_set_ne e]
    have h2 : (l.set n' ((l.getD n' []).set k' y)).getD n [] = l.getD n [] := by simp only [List.getD_eq_getElem?_getD, List.getElem?_set_ne (fun h => e h.symm)]
    rw [h1, h2, List.set_comm _ _ e]
theorem rdV_comm {m k k' : Nat} {st keys old : List Int} (hl : old.length = keys.length) (h0 : ∀ key ∈ keys, 0 ≤ key) (hk : k ≠ k') : rdV m k st keys (rdV m k' st keys old) = rdV m k' st keys (rdV m k st keys old) := by
  have hl1 : (rdV m k' st keys old).length = keys.length := rdV_len hl
  have hl2 : (rdV m k st keys old).length = keys.length := rdV_len hl
  apply List.ext_getElem?
  intro i
  by_cases hi : i < keys.length
  · obtain ⟨key, hkey⟩ : ∃ key, keys[i]? = some key := ⟨_, List.getElem?_eq_getElem hi⟩
    rw [getD_of_lt 0 (by rw [rdV_len hl1]; exact hi), getD_of_lt 0 (by rw [rdV_len hl2]; exact hi), rdV_at hl1 hkey, rdV_at hl2 hkey, rdV_at hl hkey, rdV_at hl hkey]
    by_cases e1 : hereB m k key = true
    · by_cases e2 : hereB m k' key = true
      · have hz := h0 key (List.mem_of_getElem? hkey)
        exact absurd ((here_iff' hz).1 e1 ▸ (here_iff' hz).1 e2) (fun h => hk h)
      · rw [if_pos e1, if_neg e2, if_pos e1]
    · by_cases e2 : hereB m k' key = true
      · rw [if_neg e1, if_pos e2, if_pos e2]
      · rw [if_neg e1, if_neg e2, if_neg e2, if_neg e1]
  · rw [List.getElem?_eq_none (by rw [rdV_len hl1]; omega), List.getElem?_eq_none (by rw [rdV_len hl2]; omega)]
theorem rdV_congr {m k : Nat} {st st' keys old : List Int} (h : ∀ key ∈ keys, hereB m k key = true → rdF st key = rdF st' key) : rdV m k st keys old = rdV m k st' keys old := by
  unfold rdV
  refine List.map_congr_left fun q hq => ?_
  by_cases e : hereB m k q.1 = true
  · rw [if_pos e, if_pos e, h q.1 (List.of_mem_zip hq).1 e]
  · rw [if_neg e, if_neg e]
theorem putZ_comm {st : List Int} {a b : List (SetT × Int)} (h : ∀ x ∈ a, ∀ y ∈ b, x.1.key.toNat ≠ y.1.key.toNat) : putZ (putZ st a) b = putZ (putZ st b) a := by
  apply List.ext_getElem?
  intro i
  by_cases hi : i < st.length
  · rw [getD_of_lt 0 (by rw [putZ_length, putZ_length]; exact hi), getD_of_lt 0 (by rw [putZ_length, putZ_length]; exact hi), putZ_at (st := putZ st a) (by rw [putZ_length]; exact hi), putZ_at (st := st) hi, putZ_at (st := putZ st b) (by rw [putZ_length]; exact hi), putZ_at (st := st) hi]
    by_cases e : ∃ x ∈ a, x.1.key.toNat = i
    · obtain ⟨x, hx, rfl⟩ := e
      rw [lastP_idle (l := b) (fun y hy h2 => h x hx y hy h2.symm), lastP_idle (l := b) (fun y hy h2 => h x hx y hy h2.symm)]
    · have hna : ∀ x ∈ a, x.1.key.toNat ≠ i := fun x hx h2 => e ⟨x, hx, h2⟩
      rw [lastP_idle hna, lastP_idle hna]
  · rw [List.getElem?_eq_none (by rw [putZ_length, putZ_length]; omega), List.getElem?_eq_none (by rw [putZ_length, putZ_length]; omega)]
theorem wrP_key {p : Plan} {m k n : Nat} {xs : List Int} {q : SetT × Int} (h : q ∈ wrP m k (txN p n) xs) : q.1.key ∈ keysOf (txN p n) ∧ hereB m k q.1.key = true := by
  unfold wrP at h
  rw [List.mem_filter] at h
  exact ⟨List.mem_map.2 ⟨q.1, (List.of_mem_zip h.1).1, rfl⟩, h.2⟩
/- neither is gone: no clash there -/
theorem no_clash {p : Plan} {s : StT} (v : Valid p s) (ho : Ord p s) {n k n' : Nat} (hn : n < nT p) (hk : k < mS p) (hn' : n' < nT p) (hne : n ≠ n') (h1 : goneB p s n k = false) (h2 : goneB p s n' k = false)
    (hx : bAt s.rd n k = true ∨ freeB p s n k = true) (hy : bAt s.rd n' k = true ∨ freeB p s n' k = true) :
    (∀ key, key ∈ keysOf (txN p n) → hereB (mS p) k key = true → key ∉ keysOf (txN p n') ∧ key ∉ (txN p n').reads) ∧ ∀ key, key ∈ keysOf (txN p n') → hereB (mS p) k key = true → key ∉ (txN p n).reads := by
  rcases Nat.lt_or_gt_of_ne hne with hlt | hlt
  · have : byB (hereB (mS p) k) (txN p n) (txN p n') = false := by
      rcases hy with hy | hy
      · exact ord_of (ho n' k n hn' hk hlt hy) h1
      · exact ord_of (free_at hy n hlt) h1
    exact by_false this
  · have : byB (hereB (mS p) k) (txN p n') (txN p n) = false := by
      rcases hx with hx | hx
      · exact ord_of (ho n k n' hn hk hlt hx) h2
      · exact ord_of (free_at hx n' hlt) h2
    obtain ⟨b1, b2⟩ := by_false this
    exact ⟨fun key h3 h4 => ⟨fun h5 => (b1 key h5 h4).1 h3, b2 key h3 h4⟩, fun key h3 h4 => (b1 key h3 h4).2⟩
theorem not_gone_rd {p : Plan} {s : StT} (v : Valid p s) {n k : Nat} (h : Step p s 1 n k) : goneB p s n k = false := by
  obtain ⟨h1, h2, _⟩ := h.rd
  cases hg : goneB p s n k with
  | false => rfl
  | true =>
    rcases gone_of.1 hg with h3 | h3 | ⟨h3, _⟩
    · rw [h1] at h3; cases h3
    · have := wr_rd v h.hn h.hk h3; rw [h2] at this; cases this
    · rw [h2] at h3; cases h3
theorem not_gone_wr {p : Plan} {s : StT} {n k : Nat} (hk : k < mS p) (h1 : act p n k = true) (h2 : bAt s.wr n k = false) : goneB p s n k = false := by
  cases hg : goneB p s n k with
  | false => rfl
  | true =>
    rcases gone_of.1 hg with h3 | h3 | ⟨_, h3⟩
    · rw [act_prt hk h1] at h3; cases h3
    · rw [h2] at h3; cases h3
    · rw [h1] at h3; cases h3
theorem key_shard {p : Plan} (hp : checkPlan p = 0) {n n' k k' : Nat} (hn : n < nT p) {a b : Int} (ha : 0 ≤ a) (hb : 0 ≤ b) (h1 : hereB (mS p) k a = true) (h2 : hereB (mS p) k' b = true) (e : a.toNat = b.toNat) : k = k' := by
  have : a = b := by omega
  subst this
  rw [← (here_iff' ha).1 h1, (here_iff' ha).1 h2]
/- reading and writing -/
theorem comm_rw {p : Plan} {s : StT} {n k n' k' : Nat} (v : Valid p s) (ho : Ord p s) (hx : Step p s 1 n k) (hy : Step p s 2 n' k') : turnS p (turnS p s 1 n k) 2 n' k' = turnS p (turnS p s 2 n' k') 1 n k := by
  obtain ⟨x1, x2, x3⟩ := hx.rd
  obtain ⟨y1, y2, y3⟩ := hy.wr
  have hne : n ≠ n' := fun e => by
    subst e
    have := allB_iff.1 y3 k hx.hk x1
    rw [x2] at this; cases this
  have hv : (s.vals.set n (rdV (mS p) k s.store (txN p n).reads (s.vals.getD n []))).getD n' [] = s.vals.getD n' [] := by simp only [List.getD_eq_getElem?_getD, List.getElem?_set_ne hne]
  have hrd : rdV (mS p) k (putZ s.store (wrP (mS p) k' (txN p n') (s.vals.getD n' []))) (txN p n).reads (s.vals.getD n []) = rdV (mS p) k s.store (txN p n).reads (s.vals.getD n []) := by
    refine rdV_congr fun key hkey hh => ?_
    obtain ⟨k0, k8⟩ := key_at v.plan hx.hn (.inl hkey)
    show (putZ s.store _).getD key.toNat 0 = s.store.getD key.toNat 0
    rw [putZ_at (by rw [v.store]; omega)]
    refine lastP_idle (fun q hq e => ?_) _
    obtain ⟨q1, q2⟩ := wrP_key hq
    have q0 := (key_at v.plan hy.hn (.inr q1)).1
    have hkk : k' = k := key_shard v.plan hy.hn (n' := n) q0 k0 q2 hh e
    subst hkk
    have hqk : q.1.key = key := by omega
    rw [hqk] at q1 q2
    exact ((no_clash v ho hx.hn hx.hk hy.hn hne (not_gone_rd v hx) (not_gone_wr hy.hk y1 y2) (.inr x3) (.inl (allB_iff.1 y3 k' hy.hk (act_prt hy.hk y1)))).2 key q1 q2) hkey
  rw [turn1, turn2, turn2, turn1]
  simp only [hv, hrd]
theorem comm_rr {p : Plan} {s : StT} {n k n' k' : Nat} (v : Valid p s) (hx : Step p s 1 n k) (hy : Step p s 1 n' k') (hne : ¬ (n = n' ∧ k = k')) : turnS p (turnS p s 1 n k) 1 n' k' = turnS p (turnS p s 1 n' k') 1 n k := by
  rw [turn1, turn1, turn1, turn1]
  simp only [set2_comm (l := s.rd) hne]
  congr 1
  by_cases e : n = n'
  · subst e
    have hkk : k ≠ k' := fun e => hne ⟨rfl, e⟩
    have hl : n < s.vals.length := by rw [v.vall]; exact hx.hn
    simp only [getD_set_at hl, if_pos, List.set_set]
    rw [rdV_comm (v.valr n hx.hn) (fun key hk => (key_at v.plan hx.hn (.inl hk)).1) hkk]
  · have h1 : ∀ x, (s.vals.set n x).getD n' [] = s.vals.getD n' [] := fun x => by simp only [List.getD_eq_getElem?_getD, List.getElem?_set_ne e]
    have h2 : ∀ x, (s.vals.set n' x).getD n [] = s.vals.getD n [] := fun x => by simp only [List.getD_eq_getElem?_getD, List.getElem?_set_ne (fun h => e h.symm)]
    rw [h1, h2, List.set_comm _ _ e]
theorem comm_ww {p : Plan} {s : StT} {n k n' k' : Nat} (v : Valid p s) (ho : Ord p s) (hx : Step p s 2 n k) (hy : Step p s 2 n' k') (hne : ¬ (n = n' ∧ k = k')) : turnS p (turnS p s 2 n k) 2 n' k' = turnS p (turnS p s 2 n' k') 2 n k := by
  obtain ⟨x1, x2, x3⟩ := hx.wr
  obtain ⟨y1, y2, y3⟩ := hy.wr
  rw [turn2, turn2, turn2, turn2]
  simp only [set2_comm (l := s.wr) hne]
  congr 1
  refine putZ_comm fun a ha b hb e => ?_
  obtain ⟨a1, a2⟩ := wrP_key ha
  obtain ⟨b1, b2⟩ := wrP_key hb
  have a0 := (key_at v.plan hx.hn (.inr a1)).1
  have b0 := (key_at v.plan hy.hn (.inr b1)).1
  have hkk : k = k' := key_shard v.plan hx.hn (n' := n') a0 b0 a2 b2 e
  subst hkk
  have hab : a.1.key = b.1.key := by omega
  have hnn : n ≠ n' := fun e => hne ⟨e, rfl⟩
  have := (no_clash v ho hx.hn hx.hk hy.hn hnn (not_gone_wr hx.hk x1 x2) (not_gone_wr hy.hk y1 y2) (.inl (allB_iff.1 x3 k hx.hk (act_prt hx.hk x1))) (.inl (allB_iff.1 y3 k hy.hk (act_prt hy.hk y1)))).1 a.1.key a1 a2
  rw [hab] at this
  exact this.1 b1
theorem comm {p : Plan} {s : StT} {kx ky : Int} {n k n' k' : Nat} (v : Valid p s) (ho : Ord p s) (hx : Step p s kx n k) (hy : Step p s ky n' k') (hne : ¬ (kx = ky ∧ n = n' ∧ k = k')) : turnS p (turnS p s kx n k) ky n' k' = turnS p (turnS p s ky n' k') kx n k := by
  rcases hx.kd with rfl | rfl <;> rcases hy.kd with rfl | rfl
  · exact comm_rr v hx hy fun e => hne ⟨rfl, e.1, e.2⟩
  · exact comm_rw v ho hx hy
  · exact (comm_rw v ho hy hx).symm
  · exact comm_ww v ho hx hy fun e => hne ⟨rfl, e.1, e.2⟩
/- played to the end -/
theorem Reach.nxt {p : Plan} {s0 : List Int} {s : StT} (r : Reach p s0 s) (ho : overB p s = false) (picks : List Int) (n : Nat) : ∃ x, x ∈ canL p s ∧ nxt p picks s n = turnX p s x ∧ (canL p s)[((pickN picks n).tmod ((canL p s).length : Int)).toNat]? = some x := by
  have hne : canL p s ≠ [] := fun e => by rw [(over_can r.v).2 e] at ho; cases ho
  have hlen : 0 < (canL p s).length := List.length_pos_iff.2 hne
  have hp0 : 0 ≤ pickN picks n := by
    unfold pickN
    split
    · split <;> omega
    · exact Int.le_refl _
  have h1 : 0 ≤ (pickN picks n).tmod ((canL p s).length : Int) := Int.tmod_nonneg _ hp0
  have h2 : (pickN picks n).tmod ((canL p s).length : Int) < ((canL p s).length : Int) := Int.tmod_lt_of_pos _ (by omega)
  have hlt : ((pickN picks n).tmod ((canL p s).length : Int)).toNat < (canL p s).length := by omega
  have hx := getD_of_lt (l := canL p s) ⟨1, 0, 0⟩ hlt
  exact ⟨_, List.mem_of_getElem? hx, rfl, hx⟩
theorem Reach.turnX {p : Plan} {s0 : List Int} {s : StT} (r : Reach p s0 s) {x : StepT} (h : x ∈ canL p s) : Reach p s0 (turnX p s x) := r.turn (Step.of_mem h).1
theorem onS_over {p : Plan} {picks : List Int} {f : Nat} {s : StT} {n : Nat} (h : overB p s = true) : onS p picks f s n = (s, n) := by
  cases f with
  | zero => rfl
  | succ f => unfold onS; rw [if_pos h]
theorem onS_go {p : Plan} {picks : List Int} {f : Nat} {s : StT} {n : Nat} (h : overB p s = false) : onS p picks (f + 1) s n = onS p picks f (nxt p picks s n) (n + 1) := by
  conv => lhs; unfold onS
  rw [if_neg (by rw [h]; simp)]
theorem onS_end {p : Plan} {s0 picks : List Int} : ∀ {f : Nat} {s : StT} {n : Nat}, Reach p s0 s → togo p s ≤ f → Reach p s0 (onS p picks f s n).1 ∧ overB p (onS p picks f s n).1 = true ∧ (onS p picks f s n).2 = n + togo p s
  | f, s, n, r, hf => by
    cases ho : overB p s with
    | true =>
      rw [onS_over ho]
      refine ⟨r, ho, ?_⟩
      have : togo p s = 0 := by
        rw [over_iff] at ho
        unfold togo
        rw [cnt_zero fun i j hi hj => ?_, cnt_zero fun i j hi hj => ?_]
        · have hg := gone_of.1 (ho i j hi hj)
          cases h1 : act p i j with
          | false => rfl
          | true =>
            rcases hg with h | h | ⟨_, h⟩
            · rw [act_prt hj h1] at h; cases h
            · simp [h]
            · rw [h1] at h; cases h
        · have hg := gone_of.1 (ho i j hi hj)
          rcases hg with h | h | ⟨h, _⟩
          · simp [h]
          · simp [wr_rd r.v hi hj h]
          · simp [h]
      simp only [this]; omega
    | false =>
      obtain ⟨x, hx, he, _⟩ := r.nxt ho picks n
      have hs := (Step.of_mem hx).1
      have ht := togo_turn r.v hs
      cases f with
      | zero => omega
      | succ f =>
        rw [onS_go ho, he]
        have hto : togo p s = togo p (Go.Proofs.Ytjgmbgfcffnanac.turnX p s x) + 1 := ht
        obtain ⟨a, b, c⟩ := onS_end (picks := picks) (f := f) (s := Go.Proofs.Ytjgmbgfcffnanac.turnX p s x) (n := n + 1) (r.turnX hx) (by omega)
        exact ⟨a, b, by omega⟩
/- steps that may be, told apart -/
theorem mem_can_inj {p : Plan} {s : StT} {x y : StepT} (hx : x ∈ canL p s) (hy : y ∈ canL p s) (hne : x ≠ y) : ¬ (x.kind = y.kind ∧ x.txn.toNat = y.txn.toNat ∧ x.shard.toNat = y.shard.toNat) := by
  rintro ⟨h1, h2, h3⟩
  obtain ⟨_, a, _, b, _⟩ := Step.of_mem hx
  obtain ⟨_, a', _, b', _⟩ := Step.of_mem hy
  apply hne
  obtain ⟨k, t, s⟩ := x
  obtain ⟨k', t', s'⟩ := y
  simp only [StepT.mk.injEq]
  simp only at h1 h2 h3 a b a' b'
  omega
theorem doE_can {p : Plan} {s : StT} (v : Valid p s) (x : StepT) : doE p s x = 0 ↔ x ∈ canL p s := by
  have h0 := valid_iff.2 v
  constructor
  · intro h
    unfold doE at h
    rw [if_pos h0] at h
    split at h
    · rename_i hk
      split at h
      · cases h
      · rename_i hr
        split at h
        · cases h
        · split at h
          · cases h
          · split at h
            · cases h
            · rename_i hm
              refine mem_canL.2 ⟨x.txn.toNat, x.shard.toNat, hk, ?_, by omega, by omega, by simpa using hm⟩
              obtain ⟨a, b, c⟩ := x
              simp only at hr
              simp only [StepT.mk.injEq]
              refine ⟨trivial, ?_, ?_⟩ <;> omega
    · cases h
  · intro h
    obtain ⟨hs, a, b, c, d⟩ := Step.of_mem h
    unfold doE
    rw [if_pos h0, if_pos hs.kd, if_neg (by omega)]
    have hm := hs.may
    rcases hs.kd with hk | hk
    · have hs' := hs
      rw [hk] at hs'
      obtain ⟨h1, h2, h3⟩ := hs'.rd
      unfold hasX didX
      have h12 : ¬ x.kind = 2 := by omega
      rw [if_neg h12, if_neg h12, h1, h2, hm]
      simp
    · have hs' := hs
      rw [hk] at hs'
      obtain ⟨h1, h2, h3⟩ := hs'.wr
      unfold hasX didX
      rw [if_pos hk, if_pos hk, h1, h2, hm]
      simp
end Go.Proofs.Ytjgmbgfcffnanac
