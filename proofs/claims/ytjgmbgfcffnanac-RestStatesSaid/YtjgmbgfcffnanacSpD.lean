/- Played to the end, and what comes: plain. -/
import Derived.Test.YtjgmbgfcffnanacSpC
import Derived.Test.YtjgmbgfcffnanacSl
namespace Go.Proofs.Ytjgmbgfcffnanac
open Go.RowKit

theorem canRow_next (p : Plan) (s : StT) (kind : Int) (n k : Nat) : canRow p s kind n (k + 1) = canRow p s kind n k ++ (if mayB p s kind n k then [(⟨kind, n, k⟩ : StepT)] else []) := by
  unfold canRow
  rw [List.range_succ, List.filter_append, List.map_append]
  congr 1
  by_cases h : mayB p s kind n k = true
  · rw [if_pos h]; simp [List.filter, h]
  · rw [if_neg h]; simp [List.filter, h]
theorem canKind_next (p : Plan) (s : StT) (kind : Int) (n : Nat) : canKind p s kind (n + 1) = canKind p s kind n ++ canRow p s kind n (mS p) := by unfold canKind; rw [List.range_succ, List.flatMap_append]; simp
theorem canRow_len (p : Plan) (s : StT) (kind : Int) (n k : Nat) : (canRow p s kind n k).length ≤ k := by
  unfold canRow; rw [List.length_map]; exact Nat.le_trans (List.length_filter_le _ _) (by simp)
theorem canKind_len (p : Plan) (s : StT) (kind : Int) : ∀ n, (canKind p s kind n).length ≤ n * mS p
  | 0 => by simp [canKind]
  | n + 1 => by
    have h1 := canKind_len p s kind n
    have h2 := canRow_len p s kind n (mS p)
    rw [canKind_next, List.length_append, Nat.add_mul]; omega
def canTo (p : Plan) (s : StT) (c : Nat) : List StepT := if c ≤ 1 then [] else if c = 2 then canKind p s 1 (nT p) else canL p s
theorem canTo_next {p : Plan} {s : StT} {c : Nat} (h1 : 1 ≤ c) (h2 : c ≤ 2) : canTo p s (c + 1) = canTo p s c ++ canKind p s (c : Int) (nT p) := by
  have : c = 1 ∨ c = 2 := by omega
  rcases this with rfl | rfl <;> rfl
theorem canTo_len {p : Plan} {s : StT} (h1 : mS p ≤ 4) (h2 : nT p ≤ 8) (c : Nat) : (canTo p s c).length ≤ 64 := by
  have a := canKind_len p s 1 (nT p)
  have b := canKind_len p s 2 (nT p)
  have hm : nT p * mS p ≤ 8 * 4 := Nat.mul_le_mul h2 h1
  unfold canTo canL
  split
  · simp
  · split
    · omega
    · rw [List.length_append]; omega
def onF (p : Plan) (picks : List Int) (s : StT) (n : Nat) : StT × Nat := onS p picks (togo p s) s n
theorem pick_nn (picks : List Int) (n : Nat) : 0 ≤ pickN picks n := by
  unfold pickN
  split
  · split <;> omega
  · exact Int.le_refl _
theorem nxt_at {p : Plan} {s : StT} (v : Valid p s) (ho : overB p s = false) (picks : List Int) (n : Nat) : ∃ x, x ∈ canL p s ∧ nxt p picks s n = turnX p s x ∧ (canL p s)[(pickN picks n % ((canL p s).length : Int)).toNat]? = some x ∧ 0 < (canL p s).length := by
  have hne : canL p s ≠ [] := fun e => by rw [(over_can v).2 e] at ho; cases ho
  have hlen : 0 < (canL p s).length := List.length_pos_iff.2 hne
  have hp0 := pick_nn picks n
  have h1 : (pickN picks n).tmod ((canL p s).length : Int) = pickN picks n % ((canL p s).length : Int) := Int.tmod_eq_emod_of_nonneg hp0
  have h2 : 0 ≤ pickN picks n % ((canL p s).length : Int) := Int.emod_nonneg _ (by omega)
  have h3 : pickN picks n % ((canL p s).length : Int) < ((canL p s).length : Int) := Int.emod_lt_of_pos _ (by omega)
  have hx := getD_of_lt (l := canL p s) ⟨1, 0, 0⟩ (show (pickN picks n % ((canL p s).length : Int)).toNat < _ by omega)
  exact ⟨_, List.mem_of_getElem? hx, by unfold nxt; rw [h1], hx, hlen⟩
theorem onF_over {p : Plan} {picks : List Int} {s : StT} {n : Nat} (h : overB p s = true) : onF p picks s n = (s, n) := onS_over h
theorem onF_go {p : Plan} {picks : List Int} {s : StT} {n : Nat} (v : Valid p s) (h : overB p s = false) : Valid p (nxt p picks s n) ∧ togo p s = togo p (nxt p picks s n) + 1 ∧ onF p picks s n = onF p picks (nxt p picks s n) (n + 1) := by
  obtain ⟨x, hx, he, _⟩ := nxt_at v h picks n
  have hs := (Step.of_mem hx).1
  have ht : togo p s = togo p (nxt p picks s n) + 1 := by rw [he]; exact togo_turn v hs
  refine ⟨by rw [he]; exact v.turn hs, ht, ?_⟩
  unfold onF
  rw [ht, onS_go h]
theorem onF_tail {p : Plan} {picks : List Int} : ∀ {f : Nat} {s : StT} {n m : Nat}, picks.length ≤ n → onS p picks f s n = ((onS p [] f s m).1, n + ((onS p [] f s m).2 - m)) ∧ m ≤ (onS p [] f s m).2
  | 0, s, n, m, h => by unfold onS; exact ⟨by simp, Nat.le_refl _⟩
  | f + 1, s, n, m, h => by
    have hp : pickN picks n = pickN [] m := by
      unfold pickN
      rw [List.getElem?_eq_none h]
      simp
    have hn : nxt p picks s n = nxt p [] s m := by unfold nxt; rw [hp]
    cases ho : overB p s with
    | true => rw [onS_over ho, onS_over ho]; exact ⟨by simp, Nat.le_refl _⟩
    | false =>
      rw [onS_go ho, onS_go ho, hn]
      obtain ⟨a, b⟩ := onF_tail (picks := picks) (f := f) (s := nxt p [] s m) (n := n + 1) (m := m + 1) (by omega)
      rw [a]
      refine ⟨?_, by omega⟩
      simp only [Prod.mk.injEq, true_and]
      omega
def playE (p : Plan) (st picks : List Int) : Int := if beginE p st = 0 then (if 200 < picks.length then 2 else 0) else beginE p st
def playS (p : Plan) (st picks : List Int) : StT := if playE p st picks = 0 then (onF p picks (beginS p st) 0).1 else st0
def playN (p : Plan) (st picks : List Int) : Int := if playE p st picks = 0 then ((onF p picks (beginS p st) 0).2 : Int) else 0
theorem playE_zero {p : Plan} {st picks : List Int} (h : playE p st picks = 0) : beginE p st = 0 ∧ picks.length ≤ 200 := by
  unfold playE at h
  split at h
  · rename_i h0
    split at h
    · cases h
    · exact ⟨h0, by omega⟩
  · exact absurd h (by assumption)
theorem play_no {p : Plan} {st picks : List Int} {e : Int} (h1 : ¬ e = 0) (h : playE p st picks = e) : playS p st picks = st0 ∧ playN p st picks = 0 := by
  unfold playS playN
  rw [h, if_neg h1, if_neg h1]
  exact ⟨rfl, rfl⟩
def resE (p : Plan) (s : StT) : Int := if checkState p s = 0 then (if overB p s then 0 else 8) else checkState p s
def resTo (p : Plan) (s : StT) (j : Nat) : List Res := (List.range j).map fun n => ⟨runDone (txN p n) (s.vals.getD n []), s.vals.getD n []⟩
def resR (p : Plan) (s : StT) : List Res := if resE p s = 0 then resTo p s (nT p) else []
theorem resTo_next (p : Plan) (s : StT) (j : Nat) : resTo p s (j + 1) = resTo p s j ++ [⟨runDone (txN p j) (s.vals.getD j []), s.vals.getD j []⟩] := by unfold resTo; rw [List.range_succ, List.map_append]; rfl
theorem resTo_len (p : Plan) (s : StT) (j : Nat) : (resTo p s j).length = j := by simp [resTo]
theorem onF_le {p : Plan} {picks : List Int} {s : StT} {n : Nat} : (onF p picks s n).2 ≤ n + togo p s := by
  have : ∀ f (s : StT) m, (onS p picks f s m).2 ≤ m + f := fun f => by
    induction f with
    | zero => intro s m; simp [onS]
    | succ f ih =>
      intro s m
      cases ho : overB p s with
      | true => rw [onS_over ho]; simp
      | false => rw [onS_go ho]; have := ih (nxt p picks s m) (m + 1); omega
  exact this (togo p s) s n
theorem play_done {p : Plan} {st picks : List Int} (h : playE p st picks = 0) : Reach p st (playS p st picks) ∧ overB p (playS p st picks) = true ∧ (playS p st picks).store = serS st p.txns ∧ resE p (playS p st picks) = 0 ∧ resR p (playS p st picks) = serR st p.txns := by
  obtain ⟨h0, _⟩ := playE_zero h
  have hs : playS p st picks = (onF p picks (beginS p st) 0).1 := by unfold playS; rw [if_pos h]
  have r := Reach.begin h0
  obtain ⟨r2, ho, _⟩ := onS_end (picks := picks) (n := 0) r (Nat.le_refl (togo p (beginS p st)))
  have r3 : Reach p st (playS p st picks) := by rw [hs]; exact r2
  have ho3 : overB p (playS p st picks) = true := by rw [hs]; exact ho
  obtain ⟨e1, e2, _⟩ := r3.over ho3
  have hv := valid_iff.2 r3.v
  have hE : resE p (playS p st picks) = 0 := by unfold resE; rw [if_pos hv, if_pos ho3]
  refine ⟨r3, ho3, e1, hE, ?_⟩
  unfold resR
  rw [if_pos hE]
  exact e2
theorem choose4 {n : Int} : 0 ≤ chooseN n 4 ∧ chooseN n 4 < 4 := by
  unfold chooseN
  have h1 : 0 ≤ (if n < 0 then -(n + 1) else n) := by split <;> omega
  rw [Int.tmod_eq_emod_of_nonneg h1]
  omega
theorem shards_begin {p : Plan} {st picks : List Int} {n : Int} (h : playE p st picks = 0) : playE ⟨1 + chooseN n 4, p.txns⟩ st picks = 0 := by
  obtain ⟨h0, h2⟩ := playE_zero h
  have hc := choose4 (n := n)
  have hp : checkPlan p = 0 ∧ st.length = 8 := by
    unfold beginE at h0
    split at h0
    · split at h0
      · exact ⟨by assumption, by assumption⟩
      · cases h0
    · exact absurd h0 (by assumption)
  have hq : checkPlan ⟨1 + chooseN n 4, p.txns⟩ = 0 := by
    have := (checkPlan_zero hp.1).2.2
    unfold checkPlan
    simp only
    rw [if_neg (by omega)]
    exact this
  unfold playE beginE
  rw [if_pos hq, if_pos hp.2, if_pos rfl, if_neg (by omega)]
end Go.Proofs.Ytjgmbgfcffnanac
