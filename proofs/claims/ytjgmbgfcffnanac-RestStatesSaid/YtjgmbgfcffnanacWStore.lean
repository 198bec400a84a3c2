/- The laws of package store return true. -/
import Derived.Test.YtjgmbgfcffnanacSt3
import Derived.Test.YtjgmbgfcffnanacWGraph
namespace Go.Proofs.Ytjgmbgfcffnanac
open Go.RowKit

theorem checkTxns_of {l : List Txn} (h8 : l.length ≤ 8) (h : ∀ t ∈ l, checkTxn t = 0) : checkTxns l = 0 := by
  unfold checkTxns
  rw [if_neg (by omega), fe_zero]
  intro x hx
  obtain ⟨t, ht, hx⟩ := List.mem_flatMap.1 hx
  simp [txErrs] at hx
  rw [hx]; exact h t ht
theorem checkTxns_sub {l m : List Txn} (h : checkTxns l = 0) (hl : m.length ≤ l.length) (hs : ∀ t ∈ m, t ∈ l) : checkTxns m = 0 := by
  obtain ⟨h1, h2⟩ := checkTxns_zero h
  exact checkTxns_of (by omega) fun t ht => h2 t (hs t ht)
theorem serE_zero {s : List Int} {l : List Txn} (h : serE s l = 0) : s.length = 8 ∧ checkTxns l = 0 := by
  unfold serE at h
  split at h
  · exact ⟨by assumption, h⟩
  · cases h
theorem serE_of {s : List Int} {l : List Txn} (h : s.length = 8) (h2 : checkTxns l = 0) : serE s l = 0 := by unfold serE; rw [if_pos h, h2]
theorem serL_of {s : List Int} {l : List Txn} (h : serE s l = 0) : serL s l = serS s l := by unfold serL; rw [if_pos h]
theorem serV_of {s : List Int} {l : List Txn} (h : serE s l = 0) : serV s l = serR s l := by unfold serV; rw [if_pos h]
theorem serS_append (s : List Int) (l m : List Txn) : serS s (l ++ m) = serS (serS s l) m := by unfold serS; rw [List.foldl_append]

def st8 : List Int := [5, 1, 0, 0, 0, 0, 0, 0]
def st7 : List Int := [5, 1, 0, 0, 0, 0, 0]
def l3 : List Txn := [payT 3, payT 3, noteT]
theorem applyS_idle {s : List Int} {t : Txn} (h : (applyR s t).done = false) : applyS s t = s := by
  unfold applyR at h
  unfold applyS runSets
  rw [if_neg (by simp at h; simp [h])]
  simp [putZ]
theorem putZ_stays {s : List Int} {l : List (SetT × Int)} {i : Nat} (h : ∀ p ∈ l, p.1.key.toNat ≠ i) : (putZ s l)[i]? = s[i]? := by
  induction l generalizing s with
  | nil => rfl
  | cons p l ih =>
    show (putZ (s.set p.1.key.toNat p.2) l)[i]? = _
    rw [ih fun q hq => h q (List.mem_cons_of_mem _ hq), List.getElem?_set_ne (h p List.mem_cons_self)]
theorem serS_stays {i : Nat} : ∀ {l : List Txn} {s : List Int}, (∀ t ∈ l, ∀ p ∈ t.sets, 0 ≤ p.key) → (∀ (q : Nat) t r, l[q]? = some t → (serR s l)[q]? = some r → ∀ p ∈ t.sets, ¬ (p.key = (i : Int) ∧ r.done = true)) → (serS s l)[i]? = s[i]?
  | [], s, _, _ => rfl
  | t :: l, s, hk, h => by
    show (serS (applyS s t) l)[i]? = _
    rw [serS_stays (l := l) (s := applyS s t) (fun t' ht => hk t' (List.mem_cons_of_mem _ ht)) (fun q t' r h1 h2 => h (q + 1) t' r (by simpa using h1) (by show (applyR s t :: serR (applyS s t) l)[q + 1]? = _; simpa using h2))]
    have h0 := h 0 t (applyR s t) rfl rfl
    cases hd : (applyR s t).done with
    | false => rw [applyS_idle hd]
    | true =>
      unfold applyS
      refine putZ_stays fun p hp => ?_
      have hm : p.1 ∈ t.sets := (List.of_mem_zip hp).1
      have h1 := h0 p.1 hm
      have h2 := hk t List.mem_cons_self p.1 hm
      intro e
      exact h1 ⟨by omega, hd⟩

end Go.Proofs.Ytjgmbgfcffnanac
