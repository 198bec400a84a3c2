/- Whatever is done, shard by shard, comes to the same as one after the other. In plain Lean. Of two steps that may be it does not matter which is done first; how many there are. In plain Lean. Played to the end, and what comes: plain. -/
import Derived.Test.YtjgmbgfcffnanaaGreatDoorZ11
namespace Go.Proofs.YtjgmbgfcffnanaaGreatDoor
def serAt (p : Plan) (s0 : List Int) (n : Nat) : List Int := serS s0 (p.txns.take n)
def vOf (p : Plan) (s0 : List Int) (n : Nat) : List Int := readsOf (serAt p s0 n) (txN p n)
def lastP (i : Nat) (l : List (SetT × Int)) (o : Int) : Int := l.foldl (fun o q => if q.1.key.toNat = i then q.2 else o) o
theorem putZ_at {i : Nat} : ∀ {l : List (SetT × Int)} {st : List Int},i < st.length → (putZ st l).getD i 0 = lastP i l (st.getD i 0)
 | [],st,_ => rfl
 | q :: l,st,h => by
  show (putZ (st.set q.1.key.toNat q.2) l).getD i 0 = lastP i l (if q.1.key.toNat = i then q.2 else st.getD i 0)
  rw [putZ_at (l := l) (by simpa using h)]
  congr 1
  by_cases e : q.1.key.toNat = i
  ·subst e;rw [if_pos rfl,ug h,if_pos rfl]
  ·rw [if_neg e]
   simp only [List.getD_eq_getElem?_getD,List.getElem?_set_ne e]
theorem lastP_idle {i : Nat} {l : List (SetT × Int)} (h : ∀ q ∈ l,q.1.key.toNat ≠ i) (o : Int) : lastP i l o = o := by
 unfold lastP
 induction l generalizing o with
 | nil => rfl
 | cons q l ih =>
  rw [List.foldl_cons,if_neg (h q List.mem_cons_self)]
  exact ih (fun q hq => h q (List.mem_cons_of_mem _ hq)) o
theorem lastP_filter {i : Nat} {f : SetT × Int → Bool} : ∀ {l : List (SetT × Int)} {o : Int},(∀ q ∈ l,q.1.key.toNat = i → f q = true) → lastP i (l.filter f) o = lastP i l o
 | [],o,_ => rfl
 | q :: l,o,h => by
  have ih : ∀ o,lastP i (l.filter f) o = lastP i l o := fun o => lastP_filter (o := o) fun r hr => h r (List.mem_cons_of_mem _ hr)
  by_cases e : f q = true
  ·rw [List.filter_cons_of_pos e]
   exact ih _
  ·rw [List.filter_cons_of_neg e]
   show lastP i (l.filter f) o = lastP i l (if q.1.key.toNat = i then q.2 else o)
   rw [if_neg (fun h2 => e (h q List.mem_cons_self h2))]
   exact ih o
def effE (p : Plan) (s0 : List Int) (j i : Nat) (o : Int) : Int := lastP i ((txN p j).sets.zip (runSets (txN p j) (vOf p s0 j))) o
theorem effE_idle {p : Plan} {s0 : List Int} {j i : Nat} (h : ∀ key ∈ keysOf (txN p j),key.toNat ≠ i) (o : Int) : effE p s0 j i o = o :=
 lastP_idle (fun q hq => h _ (List.mem_map.2 ⟨q.1,(List.of_mem_zip hq).1,rfl⟩)) o
theorem serAt_len (p : Plan) (s0 : List Int) (n : Nat) : (serAt p s0 n).length = s0.length := serS_len _ _
theorem serAt_next {p : Plan} {s0 : List Int} {j i : Nat} (hj : j < nT p) (hi : i < s0.length) : (serAt p s0 (j + 1)).getD i 0 = effE p s0 j i ((serAt p s0 j).getD i 0) := by
 have h6 : p.txns[j]? = some (txN p j) := o9 _ hj
 have h : serAt p s0 (j + 1) = applyS (serAt p s0 j) (txN p j) := by unfold serAt;rw [yg h6,serS_snoc]
 rw [h]
 unfold applyS effE vOf
 exact putZ_at (by rw [serAt_len];exact hi)
def mix (p : Plan) (s0 : List Int) (W : Nat → Bool) (i : Nat) : Nat → Int
 | 0 => s0.getD i 0
 | J + 1 => if W J then effE p s0 J i (mix p s0 W i J) else mix p s0 W i J
theorem qS {p : Plan} {s0 : List Int} {W W' : Nat → Bool} {i : Nat} : ∀ {J : Nat},(∀ j,j < J → W j ≠ W' j → ∀ o,effE p s0 j i o = o) → mix p s0 W i J = mix p s0 W' i J
 | 0,_ => rfl
 | J + 1,h => by
  have ih := qS (W := W) (W' := W') (J := J) fun j hj => h j (by omega)
  unfold mix
  rw [ih]
  have h0 := h J (by omega)
  cases e : W J <;> cases e' : W' J
  ·rfl
  ·simp only [Bool.false_eq_true,if_false,if_true];exact (h0 (by rw [e,e'];simp) _).symm
  ·simp only [Bool.false_eq_true,if_false,if_true];exact h0 (by rw [e,e'];simp) _
  ·rfl
theorem mix_true {p : Plan} {s0 : List Int} {i : Nat} (hi : i < s0.length) : ∀ {J : Nat},J ≤ nT p → mix p s0 (fun _ => true) i J = (serAt p s0 J).getD i 0
 | 0,_ => by unfold mix serAt;simp [serS]
 | J + 1,h => by
  unfold mix
  rw [if_pos rfl,mix_true hi (by omega),serAt_next (by omega) hi]
theorem mix_cut {p : Plan} {s0 : List Int} {W : Nat → Bool} {i n : Nat} : ∀ {J : Nat},n ≤ J → (∀ j,n ≤ j → j < J → W j = true → ∀ o,effE p s0 j i o = o) → mix p s0 W i J = mix p s0 W i n
 | 0,h,_ => by have : n = 0 := by omega
               subst this;rfl
 | J + 1,h,h2 => by
  by_cases e : n = J + 1
  ·subst e;rfl
  ·rw [← mix_cut (J := J) (by omega) fun j h3 h4 => h2 j h3 (by omega)]
   conv => lhs;unfold mix
   cases e2 : W J with
   | false => simp
   | true => rw [if_pos rfl,h2 J (by omega) (by omega) e2]
theorem has_iff {xs : List Int} {k : Int} : has xs k = true ↔ k ∈ xs := by
 unfold has
 rw [List.any_eq_true]
 constructor
 ·rintro ⟨q,h1,h2⟩;have : k = q := by simpa using h2
  subst this;exact h1
 ·intro h;exact ⟨k,h,by simp⟩
theorem by_false {P : Int → Bool} {x y : Txn} (h : byB P x y = false) : (∀ k,k ∈ keysOf x → P k = true → k ∉ keysOf y ∧ k ∉ y.reads) ∧ ∀ k,k ∈ keysOf y → P k = true → k ∉ x.reads := by
 unfold byB at h
 rw [Bool.or_eq_false_iff,List.any_eq_false,List.any_eq_false] at h
 refine ⟨fun k hk hP => ?_,fun k hk hP hr => ?_⟩
 ·have := h.1 k hk
  rw [hP,Bool.true_and,Bool.or_eq_true,not_or] at this
  exact ⟨fun h1 => this.1 (has_iff.2 h1),fun h1 => this.2 (has_iff.2 h1)⟩
 ·have := h.2 k hk
  rw [hP,Bool.true_and] at this
  exact this (has_iff.2 hr)
def Ord (p : Plan) (s : StT) : Prop := ∀ n k j,n < nT p → k < mS p → j < n → bAt s.rd n k = true → goneB p s j k = true ∨ byB (hereB (mS p) k) (txN p j) (txN p n) = false
structure Reach (p : Plan) (s0 : List Int) (s : StT) : Prop where
 v : Valid p s
 b0 : s0.length = 8
 ord : Ord p s
 vals : ∀ n k,n < nT p → k < mS p → bAt s.rd n k = true → ∀ i key,(txN p n).reads[i]? = some key → hereB (mS p) k key = true → (s.vals.getD n []).getD i 0 = rdF (serAt p s0 n) key
 st : ∀ i,i < 8 → s.store.getD i 0 = mix p s0 (fun j => bAt s.wr j (i % mS p)) i (nT p)
theorem j7 {p : Plan} {s : StT} {n k : Nat} : goneB p s n k = true ↔ prt p n k = false ∨ bAt s.wr n k = true ∨ (bAt s.rd n k = true ∧ act p n k = false) := by
 unfold goneB
 cases prt p n k <;> cases bAt s.wr n k <;> cases bAt s.rd n k <;> cases act p n k <;> simp
theorem gone_mono {p : Plan} {s : StT} {kind : Int} {n k j q : Nat} (v : Valid p s) (h : Step p s kind n k) (hg : goneB p s j q = true) : goneB p (turnS p s kind n k) j q = true := by
 rw [j7] at hg ⊢
 rcases h.kd with rfl | rfl
 ·have hwr : (turnS p s 1 n k).wr = s.wr := by rw [turn1]
  rw [hwr,turn_rd v h]
  rcases hg with hg | hg | ⟨h1,h2⟩
  ·exact .inl hg
  ·exact .inr (.inl hg)
  ·exact .inr (.inr ⟨by split;rfl;exact h1,h2⟩)
 ·have hrd : (turnS p s 2 n k).rd = s.rd := by rw [turn2]
  rw [hrd,turn_wr v h]
  rcases hg with hg | hg | hg
  ·exact .inl hg
  ·exact .inr (.inl (by split;rfl;exact hg))
  ·exact .inr (.inr hg)
theorem wr_rd {p : Plan} {s : StT} (v : Valid p s) {n k : Nat} (hn : n < nT p) (hk : k < mS p) (h : bAt s.wr n k = true) : bAt s.rd n k = true := by
 obtain ⟨h1,h2⟩ := v.wra n k hn hk h
 exact uo.1 h2 k hk (jT hk h1)
theorem vx {p : Plan} (hp : checkPlan p = 0) {n : Nat} (hn : n < nT p) {key : Int} (h : key ∈ (txN p n).reads ∨ key ∈ keysOf (txN p n)) : 0 ≤ key ∧ key < 8 := by
 obtain ⟨h1,h2⟩ := yj ((oO hp).2.2.2.2 n hn).2
 rcases h with h | h
 ·exact h1 key h
 ·exact h2 key h
theorem ve {p : Plan} {i : Nat} {key : Int} (h0 : 0 ≤ key) (h : key.toNat = i) : (key % (mS p : Int)).toNat = i % mS p := by
 have : key = (i : Int) := by omega
 subst this
 omega
theorem mod_lt {p : Plan} (hp : checkPlan p = 0) (i : Nat) : i % mS p < mS p := Nat.mod_lt _ (by have := (oO hp).2.1;omega)
theorem ahead_wrote {p : Plan} {s : StT} (hp : checkPlan p = 0) {n k j : Nat} (_ : j < nT p) (hn : n < nT p) (hk : k < mS p) (h : goneB p s j k = true ∨ byB (hereB (mS p) k) (txN p j) (txN p n) = false) {key : Int} (h1 : key ∈ keysOf (txN p j)) (h2 : key ∈ (txN p n).reads ∨ key ∈ keysOf (txN p n)) (h3 : hereB (mS p) k key = true) : bAt s.wr j k = true := by
 obtain ⟨k0,_⟩ := vx hp hn h2
 have ha : act p j k = true := (act_iff hk).2 ⟨key,h1,(here_iff' k0).1 h3⟩
 rcases h with h | h
 ·rcases j7.1 h with h | h | ⟨_,h⟩
  ·rw [jT hk ha] at h;cases h
  ·exact h
  ·rw [ha] at h;cases h
 ·obtain ⟨b1,_⟩ := by_false h
  obtain ⟨b2,b3⟩ := b1 key h1 h3
  rcases h2 with h2 | h2
  ·exact absurd h2 b3
  ·exact absurd h2 b2
theorem behind_gone {p : Plan} {s : StT} (v : Valid p s) (ho : Ord p s) {n k j : Nat} (hj : j < nT p) (hn : n < j) (hk : k < mS p) (hw : bAt s.wr j k = true) {key : Int} (h1 : key ∈ keysOf (txN p j)) (h2 : key ∈ (txN p n).reads ∨ key ∈ keysOf (txN p n)) (h3 : hereB (mS p) k key = true) : goneB p s n k = true := by
 rcases ho j k n hj hk hn (wr_rd v hj hk hw) with h | h
 ·exact h
 ·obtain ⟨b1,b2⟩ := by_false h
  rcases h2 with h2 | h2
  ·exact absurd h2 (b2 key h1 h3)
  ·exact absurd h1 (b1 key h2 h3).1
theorem free_at {p : Plan} {s : StT} {n k : Nat} (h : freeB p s n k = true) : ∀ j,j < n → goneB p s j k = true ∨ byB (hereB (mS p) k) (txN p j) (txN p n) = false := fun j hj => by
 unfold freeB at h
 have := List.all_eq_true.1 h j (List.mem_range.2 hj)
 rw [Bool.or_eq_true,Bool.not_eq_true'] at this
 exact this
theorem read_right {p : Plan} {s0 : List Int} {s : StT} (r : Reach p s0 s) {n k : Nat} (hn : n < nT p) (hk : k < mS p) (hrd : bAt s.rd n k = false) (hf : freeB p s n k = true) {key : Int} (hkey : key ∈ (txN p n).reads) (hh : hereB (mS p) k key = true) : rdF s.store key = rdF (serAt p s0 n) key := by
 obtain ⟨k0,k8⟩ := vx r.v.plan hn (.inl hkey)
 have hi : key.toNat < 8 := by omega
 have hsh : key.toNat % mS p = k := by rw [← ve k0 rfl];exact (here_iff' k0).1 hh
 show s.store.getD key.toNat 0 = (serAt p s0 n).getD key.toNat 0
 rw [r.st _ hi,hsh]
 have idle : ∀ j,j < nT p → (key ∈ keysOf (txN p j) → False) → ∀ o,effE p s0 j key.toNat o = o := fun j hj h o => effE_idle (fun q hq e => by
  have q0 := (vx r.v.plan hj (.inr hq)).1
  have : q = key := by omega
  subst this;exact h hq) o
 rw [mix_cut (n := n) (by omega) fun j h1 h2 h3 => idle j h2 fun hk1 => ?_,← mix_true (by rw [r.b0];exact hi) (by omega : n ≤ nT p)]
 ·refine qS fun j hj hne => idle j (by omega) fun hk1 => ?_
  have := ahead_wrote r.v.plan (by omega : j < nT p) hn hk (free_at hf j hj) hk1 (.inl hkey) hh
  exact hne (by simp only [this])
 ·by_cases e : j = n
  ·subst e
   have := wr_rd r.v h2 hk h3
   rw [hrd] at this;cases this
  ·have hg := behind_gone r.v r.ord h2 (by omega : n < j) hk h3 hk1 (.inl hkey) hh
   rcases j7.1 hg with h | h | ⟨h,_⟩
   ·rw [(prt_iff hk).2 ⟨key,.inl hkey,(here_iff' k0).1 hh⟩] at h;cases h
   ·have := wr_rd r.v hn hk h
    rw [hrd] at this;cases this
   ·rw [hrd] at h;cases h
theorem vals_right {p : Plan} {s0 : List Int} {s : StT} (r : Reach p s0 s) {n : Nat} (hn : n < nT p) (ha : allB p s n = true) : s.vals.getD n [] = vOf p s0 n := by
 have hl := r.v.valr n hn
 unfold vOf readsOf
 apply List.ext_getElem?
 intro i
 by_cases hi : i < (txN p n).reads.length
 ·obtain ⟨key,hkey⟩ : ∃ key,(txN p n).reads[i]? = some key := ⟨_,List.getElem?_eq_getElem hi⟩
  have hm := List.mem_of_getElem? hkey
  obtain ⟨k0,k8⟩ := vx r.v.plan hn (.inl hm)
  have hk : key.toNat % mS p < mS p := mod_lt r.v.plan _
  have hh : hereB (mS p) (key.toNat % mS p) key = true := (here_iff' k0).2 (ve k0 rfl)
  have hp : prt p n (key.toNat % mS p) = true := (prt_iff hk).2 ⟨key,.inl hm,ve k0 rfl⟩
  have := r.vals n _ hn hk (uo.1 ha _ hk hp) i key hkey hh
  rw [o9 0 (by rw [hl];exact hi),this,List.getElem?_map,hkey]
  rfl
 ·rw [List.getElem?_eq_none (by omega),List.getElem?_eq_none (by rw [List.length_map];omega)]
theorem rdV_at {m k i : Nat} {st keys old : List Int} {key : Int} (hl : old.length = keys.length) (h : keys[i]? = some key) : (rdV m k st keys old).getD i 0 = if hereB m k key then rdF st key else old.getD i 0 := by
 have hi := (List.getElem?_eq_some_iff.1 h).1
 have ho : old[i]? = some (old.getD i 0) := o9 0 (by omega)
 refine uB ?_
 unfold rdV
 have hz : (keys.zip old)[i]? = some (key,old.getD i 0) := by rw [List.getElem?_zip_eq_some];exact ⟨h,ho⟩
 rw [List.getElem?_map,hz]
 rfl
theorem Reach.turn {p : Plan} {s0 : List Int} {s : StT} {kind : Int} {n k : Nat} (r : Reach p s0 s) (h : Step p s kind n k) : Reach p s0 (turnS p s kind n k) := by
 have v' := r.v.turn h
 rcases h.kd with rfl | rfl
 ·have hrd := turn_rd r.v h
  have hwr : (turnS p s 1 n k).wr = s.wr := by rw [turn1]
  have hst : (turnS p s 1 n k).store = s.store := by rw [turn1]
  obtain ⟨_,h2,h3⟩ := h.rd
  refine ⟨v',r.b0,fun j q i hj hq hi hb => ?_,fun j q hj hq hb i key hkey hh => ?_,fun i hi => by rw [hst,hwr];exact r.st i hi⟩
  ·rw [hrd] at hb
   have key : goneB p s i q = true ∨ byB (hereB (mS p) q) (txN p i) (txN p j) = false := by
    split at hb
    ·rename_i e;obtain ⟨rfl,rfl⟩ := e;exact free_at h3 i hi
    ·exact r.ord j q i hj hq hi hb
   exact key.imp (gone_mono r.v h) id
  ·rw [hrd] at hb
   have hvals : (turnS p s 1 n k).vals.getD j [] = if n = j then rdV (mS p) k s.store (txN p n).reads (s.vals.getD n []) else s.vals.getD j [] := by
    rw [turn1];exact ug (by rw [r.v.vall];exact h.hn)
   rw [hvals]
   by_cases e : n = j
   ·subst e
    rw [if_pos rfl,rdV_at (r.v.valr n hj) hkey]
    by_cases e2 : hereB (mS p) k key = true
    ·rw [if_pos e2]
     exact read_right r h.hn h.hk h2 h3 (List.mem_of_getElem? hkey) e2
    ·rw [if_neg e2]
     have hkq : ¬ k = q := fun e3 => by subst e3;exact e2 hh
     rw [if_neg (fun h => hkq h.2)] at hb
     exact r.vals n q hj hq hb i key hkey hh
   ·rw [if_neg e]
    rw [if_neg (fun h => e h.1)] at hb
    exact r.vals j q hj hq hb i key hkey hh
 ·have hwr := turn_wr r.v h
  have hrd : (turnS p s 2 n k).rd = s.rd := by rw [turn2]
  have hvl : (turnS p s 2 n k).vals = s.vals := by rw [turn2]
  obtain ⟨h1,h2,h3⟩ := h.wr
  refine ⟨v',r.b0,fun j q i hj hq hi hb => ?_,fun j q hj hq hb i key hkey hh => by rw [hvl];rw [hrd] at hb;exact r.vals j q hj hq hb i key hkey hh,fun i hi => ?_⟩
  ·rw [hrd] at hb
   exact (r.ord j q i hj hq hi hb).imp (gone_mono r.v h) id
  ·have hst : (turnS p s 2 n k).store.getD i 0 = lastP i (wrP (mS p) k (txN p n) (s.vals.getD n [])) (s.store.getD i 0) := by
    rw [turn2];exact putZ_at (by rw [r.v.store];exact hi)
   rw [hst,r.st i hi,vals_right r h.hn h3]
   have hkeys : ∀ j,j < nT p → ∀ q ∈ keysOf (txN p j),q.toNat = i → q = (i : Int) := fun j hj q hq e => by
    have := (vx r.v.plan hj (.inr hq)).1;omega
   have hpair : ∀ q ∈ (txN p n).sets.zip (runSets (txN p n) (vOf p s0 n)),q.1.key ∈ keysOf (txN p n) := fun q hq => List.mem_map.2 ⟨q.1,(List.of_mem_zip hq).1,rfl⟩
   by_cases e : i % mS p = k
   ·have e1 : lastP i (wrP (mS p) k (txN p n) (vOf p s0 n)) (mix p s0 (fun j => bAt s.wr j (i % mS p)) i (nT p)) = effE p s0 n i (mix p s0 (fun j => bAt s.wr j (i % mS p)) i (nT p)) := by
     unfold wrP effE
     exact lastP_filter fun q hq e2 => by
      have h0 := (vx r.v.plan h.hn (.inr (hpair q hq))).1
      exact (here_iff' h0).2 (by rw [ve h0 e2];exact e)
    rw [e1,e]
    by_cases hik : (i : Int) ∈ keysOf (txN p n)
    ·have hh : hereB (mS p) k (i : Int) = true := (here_iff' (by omega)).2 (by rw [ve (i := i) (by omega) (by omega)];exact e)
     have hidle : ∀ j,n < j → j < nT p → bAt s.wr j k = true → ∀ o,effE p s0 j i o = o := fun j hj hjn hw => effE_idle fun q hq e2 => by
      have := hkeys j hjn q hq e2
      subst this
      have hg := behind_gone r.v r.ord hjn hj h.hk hw hq (.inr hik) hh
      rcases j7.1 hg with h4 | h4 | ⟨_,h4⟩
      ·rw [jT h.hk h1] at h4;cases h4
      ·rw [h2] at h4;cases h4
      ·rw [h1] at h4;cases h4
     rw [mix_cut (n := n + 1) (W := fun j => bAt (turnS p s 2 n k).wr j k) (by have := h.hn;omega) fun j h4 h5 h6 => hidle j (by omega) h5 (by rw [hwr,if_neg (by omega)] at h6;exact h6)]
     conv => rhs;unfold mix
     rw [show bAt (turnS p s 2 n k).wr n k = true by rw [hwr,if_pos ⟨rfl,rfl⟩],if_pos rfl]
     congr 1
     rw [mix_cut (n := n + 1) (by have := h.hn;omega) fun j h4 h5 h6 => hidle j (by omega) h5 h6]
     conv => lhs;unfold mix
     rw [if_neg (by rw [h2];simp)]
     exact qS fun j hj hne => absurd (by rw [hwr,if_neg (by omega)]) hne
    ·have hid : ∀ o,effE p s0 n i o = o := effE_idle fun q hq e2 => hik (hkeys n h.hn q hq e2 ▸ hq)
     rw [hid]
     refine qS fun j hj hne => ?_
     by_cases e2 : n = j
     ·subst e2;exact hid
     ·exact absurd (by rw [hwr,if_neg (fun h => e2 h.1)]) hne
   ·rw [lastP_idle fun q hq e2 => ?_]
    ·refine qS fun j hj hne => absurd ?_ hne
     rw [hwr,if_neg (fun h => e h.2.symm)]
    ·unfold wrP at hq
     rw [List.mem_filter] at hq
     have h0 := (vx r.v.plan h.hn (.inr (hpair q hq.1))).1
     have := (here_iff' h0).1 hq.2
     rw [ve h0 e2] at this
     exact e this
theorem Reach.begin {p : Plan} {st : List Int} (h : beginE p st = 0) : Reach p st (beginS p st) := by
 have v := Valid.begin h
 have hb : ∀ n k,n < nT p → k < mS p → bAt (beginS p st).rd n k = false := fun n k hn hk => by
  unfold bAt beginS
  simp only
  rw [uB (x := List.replicate (mS p) false) (by rw [List.getElem?_replicate,if_pos hn]),uB (x := false) (by rw [List.getElem?_replicate,if_pos hk])]
 have hw : ∀ n k,n < nT p → k < mS p → bAt (beginS p st).wr n k = false := fun n k hn hk => by
  unfold bAt beginS
  simp only
  rw [uB (x := List.replicate (mS p) false) (by rw [List.getElem?_replicate,if_pos hn]),uB (x := false) (by rw [List.getElem?_replicate,if_pos hk])]
 refine ⟨v,v.store,fun n k j hn hk hj h1 => ?_,fun n k hn hk h1 => ?_,fun i hi => ?_⟩
 ·rw [hb n k hn hk] at h1;cases h1
 ·rw [hb n k hn hk] at h1;cases h1
 ·show st.getD i 0 = _
  rw [mix_cut (n := 0) (Nat.zero_le _) fun j _ hj h1 => ?_]
  ·rfl
  ·rw [hw j _ hj (mod_lt v.plan i)] at h1;cases h1
theorem Reach.nxt {p : Plan} {s0 : List Int} {s : StT} (r : Reach p s0 s) (ho : overB p s = false) (picks : List Int) (n : Nat) : ∃ x,x ∈ canL p s ∧ nxt p picks s n = turnX p s x ∧ (canL p s)[((pickN picks n).tmod ((canL p s).length : Int)).toNat]? = some x := by
 have hne : canL p s ≠ [] := fun e => by rw [(over_can r.v).2 e] at ho;cases ho
 have hlen : 0 < (canL p s).length := List.length_pos_iff.2 hne
 have hp0 : 0 ≤ pickN picks n := by
  unfold pickN
  split
  ·split <;> omega
  ·exact Int.le_refl _
 have h1 : 0 ≤ (pickN picks n).tmod ((canL p s).length : Int) := Int.tmod_nonneg _ hp0
 have h2 : (pickN picks n).tmod ((canL p s).length : Int) < ((canL p s).length : Int) := Int.tmod_lt_of_pos _ (by omega)
 have hlt : ((pickN picks n).tmod ((canL p s).length : Int)).toNat < (canL p s).length := by omega
 have hx := o9 (l := canL p s) ⟨1,0,0⟩ hlt
 exact ⟨_,List.mem_of_getElem? hx,rfl,hx⟩
theorem Reach.turnX {p : Plan} {s0 : List Int} {s : StT} (r : Reach p s0 s) {x : StepT} (h : x ∈ canL p s) : Reach p s0 (turnX p s x) := r.turn (Step.of_mem h).1
theorem onS_over {p : Plan} {picks : List Int} {f : Nat} {s : StT} {n : Nat} (h : overB p s = true) : onS p picks f s n = (s,n) := by
 cases f with
 | zero => rfl
 | succ f => unfold onS;rw [if_pos h]
theorem onS_go {p : Plan} {picks : List Int} {f : Nat} {s : StT} {n : Nat} (h : overB p s = false) : onS p picks (f + 1) s n = onS p picks f (nxt p picks s n) (n + 1) := by
 conv => lhs;unfold onS
 rw [if_neg (by rw [h];simp)]
theorem onS_end {p : Plan} {s0 picks : List Int} : ∀ {f : Nat} {s : StT} {n : Nat},Reach p s0 s → togo p s ≤ f → Reach p s0 (onS p picks f s n).1 ∧ overB p (onS p picks f s n).1 = true ∧ (onS p picks f s n).2 = n + togo p s
 | f,s,n,r,hf => by
  cases ho : overB p s with
  | true =>
   rw [onS_over ho]
   refine ⟨r,ho,?_⟩
   have : togo p s = 0 := by
    rw [qG] at ho
    unfold togo
    rw [cnt_zero fun i j hi hj => ?_,cnt_zero fun i j hi hj => ?_]
    ·have hg := j7.1 (ho i j hi hj)
     cases h1 : act p i j with
     | false => rfl
     | true =>
      rcases hg with h | h | ⟨_,h⟩
      ·rw [jT hj h1] at h;cases h
      ·simp [h]
      ·rw [h1] at h;cases h
    ·have hg := j7.1 (ho i j hi hj)
     rcases hg with h | h | ⟨h,_⟩
     ·simp [h]
     ·simp [wr_rd r.v hi hj h]
     ·simp [h]
   simp only [this];omega
  | false =>
   obtain ⟨x,hx,he,_⟩ := r.nxt ho picks n
   have hs := (Step.of_mem hx).1
   have ht := togo_turn r.v hs
   cases f with
   | zero => omega
   | succ f =>
    rw [onS_go ho,he]
    have hto : togo p s = togo p (Go.Proofs.YtjgmbgfcffnanaaGreatDoor.turnX p s x) + 1 := ht
    obtain ⟨a,b,c⟩ := onS_end (picks := picks) (f := f) (s := Go.Proofs.YtjgmbgfcffnanaaGreatDoor.turnX p s x) (n := n + 1) (r.turnX hx) (by omega)
    exact ⟨a,b,by omega⟩
theorem doE_can {p : Plan} {s : StT} (v : Valid p s) (x : StepT) : doE p s x = 0 ↔ x ∈ canL p s := by
 have h0 := ud.2 v
 constructor
 ·intro h
  unfold doE at h
  rw [if_pos h0] at h
  split at h
  ·rename_i hk
   split at h
   ·cases h
   ·rename_i hr
    split at h
    ·cases h
    ·split at h
     ·cases h
     ·split at h
      ·cases h
      ·rename_i hm
       refine uI.2 ⟨x.txn.toNat,x.shard.toNat,hk,?_,by omega,by omega,by simpa using hm⟩
       obtain ⟨a,b,c⟩ := x
       simp only at hr
       simp only [StepT.mk.injEq]
       refine ⟨trivial,?_,?_⟩ <;> omega
  ·cases h
 ·intro h
  obtain ⟨hs,a,b,c,d⟩ := Step.of_mem h
  unfold doE
  rw [if_pos h0,if_pos hs.kd,if_neg (by omega)]
  have hm := hs.may
  rcases hs.kd with hk | hk
  ·have hs' := hs
   rw [hk] at hs'
   obtain ⟨h1,h2,h3⟩ := hs'.rd
   unfold hasX didX
   have h12 : ¬ x.kind = 2 := by omega
   rw [if_neg h12,if_neg h12,h1,h2,hm]
   simp
  ·have hs' := hs
   rw [hk] at hs'
   obtain ⟨h1,h2,h3⟩ := hs'.wr
   unfold hasX didX
   rw [if_pos hk,if_pos hk,h1,h2,hm]
   simp
end Go.Proofs.YtjgmbgfcffnanaaGreatDoor
namespace Go.Proofs.YtjgmbgfcffnanaaGreatDoor
open Go.RowKit
theorem jw (p : Plan) (s : StT) (kind : Int) (n k : Nat) : canRow p s kind n (k + 1) = canRow p s kind n k ++ (if mayB p s kind n k then [(⟨kind,n,k⟩ : StepT)] else []) := by
 unfold canRow
 rw [List.range_succ,List.filter_append,List.map_append]
 congr 1
 by_cases h : mayB p s kind n k = true
 ·rw [if_pos h];simp [List.filter,h]
 ·rw [if_neg h];simp [List.filter,h]
theorem uQ (p : Plan) (s : StT) (kind : Int) (n : Nat) : canKind p s kind (n + 1) = canKind p s kind n ++ canRow p s kind n (mS p) := by unfold canKind;rw [List.range_succ,List.flatMap_append];simp
theorem j0 (p : Plan) (s : StT) (kind : Int) (n k : Nat) : (canRow p s kind n k).length ≤ k := by
 unfold canRow;rw [List.length_map];exact Nat.le_trans (List.length_filter_le _ _) (by simp)
theorem uh (p : Plan) (s : StT) (kind : Int) : ∀ n,(canKind p s kind n).length ≤ n * mS p
 | 0 => by simp [canKind]
 | n + 1 => by
  have h1 := uh p s kind n
  have h2 := j0 p s kind n (mS p)
  rw [uQ,List.length_append,Nat.add_mul];omega
def canTo (p : Plan) (s : StT) (c : Nat) : List StepT := if c ≤ 1 then [] else if c = 2 then canKind p s 1 (nT p) else canL p s
theorem canTo_next {p : Plan} {s : StT} {c : Nat} (h1 : 1 ≤ c) (h2 : c ≤ 2) : canTo p s (c + 1) = canTo p s c ++ canKind p s (c : Int) (nT p) := by
 have : c = 1 ∨ c = 2 := by omega
 rcases this with rfl | rfl <;> rfl
theorem canTo_len {p : Plan} {s : StT} (h1 : mS p ≤ 4) (h2 : nT p ≤ 8) (c : Nat) : (canTo p s c).length ≤ 64 := by
 have a := uh p s 1 (nT p)
 have b := uh p s 2 (nT p)
 have hm : nT p * mS p ≤ 8 * 4 := Nat.mul_le_mul h2 h1
 unfold canTo canL
 split
 ·simp
 ·split
  ·omega
  ·rw [List.length_append];omega
def onF (p : Plan) (picks : List Int) (s : StT) (n : Nat) : StT × Nat := onS p picks (togo p s) s n
theorem pick_nn (picks : List Int) (n : Nat) : 0 ≤ pickN picks n := by
 unfold pickN
 split
 ·split <;> omega
 ·exact Int.le_refl _
theorem nxt_at {p : Plan} {s : StT} (v : Valid p s) (ho : overB p s = false) (picks : List Int) (n : Nat) : ∃ x,x ∈ canL p s ∧ nxt p picks s n = turnX p s x ∧ (canL p s)[(pickN picks n % ((canL p s).length : Int)).toNat]? = some x ∧ 0 < (canL p s).length := by
 have hne : canL p s ≠ [] := fun e => by rw [(over_can v).2 e] at ho;cases ho
 have hlen : 0 < (canL p s).length := List.length_pos_iff.2 hne
 have hp0 := pick_nn picks n
 have h1 : (pickN picks n).tmod ((canL p s).length : Int) = pickN picks n % ((canL p s).length : Int) := Int.tmod_eq_emod_of_nonneg hp0
 have h2 : 0 ≤ pickN picks n % ((canL p s).length : Int) := Int.emod_nonneg _ (by omega)
 have h3 : pickN picks n % ((canL p s).length : Int) < ((canL p s).length : Int) := Int.emod_lt_of_pos _ (by omega)
 have hx := o9 (l := canL p s) ⟨1,0,0⟩ (show (pickN picks n % ((canL p s).length : Int)).toNat < _ by omega)
 exact ⟨_,List.mem_of_getElem? hx,by unfold nxt;rw [h1],hx,hlen⟩
theorem onF_over {p : Plan} {picks : List Int} {s : StT} {n : Nat} (h : overB p s = true) : onF p picks s n = (s,n) := onS_over h
theorem onF_go {p : Plan} {picks : List Int} {s : StT} {n : Nat} (v : Valid p s) (h : overB p s = false) : Valid p (nxt p picks s n) ∧ togo p s = togo p (nxt p picks s n) + 1 ∧ onF p picks s n = onF p picks (nxt p picks s n) (n + 1) := by
 obtain ⟨x,hx,he,_⟩ := nxt_at v h picks n
 have hs := (Step.of_mem hx).1
 have ht : togo p s = togo p (nxt p picks s n) + 1 := by rw [he];exact togo_turn v hs
 refine ⟨by rw [he];exact v.turn hs,ht,?_⟩
 unfold onF
 rw [ht,onS_go h]
def resE (p : Plan) (s : StT) : Int := if checkState p s = 0 then (if overB p s then 0 else 8) else checkState p s
def resTo (p : Plan) (s : StT) (j : Nat) : List Res := (List.range j).map fun n => ⟨runDone (txN p n) (s.vals.getD n []),s.vals.getD n []⟩
def resR (p : Plan) (s : StT) : List Res := if resE p s = 0 then resTo p s (nT p) else []
theorem resTo_next (p : Plan) (s : StT) (j : Nat) : resTo p s (j + 1) = resTo p s j ++ [⟨runDone (txN p j) (s.vals.getD j []),s.vals.getD j []⟩] := by unfold resTo;rw [List.range_succ,List.map_append];rfl
theorem resTo_len (p : Plan) (s : StT) (j : Nat) : (resTo p s j).length = j := by simp [resTo]
end Go.Proofs.YtjgmbgfcffnanaaGreatDoor
