/- The walk over txn.Check, the guards and the settings. -/
import Derived.Test.YtjgmbgfcffnanacTxn5
import Derived.Test.YtjgmbgfcffnanacRegion
namespace Go.Proofs.Ytjgmbgfcffnanac
open Go.RowKit

theorem fe_flat_next {α : Type} {l : List α} {F : α → List Int} {k : Nat} {x : α} (h0 : fe ((l.take k).flatMap F) = 0) (hx : l[k]? = some x) (h1 : fe (F x) = 0) : fe ((l.take (k + 1)).flatMap F) = 0 := by
  rw [take_push hx, List.flatMap_append, fe_append, if_pos h0]
  simpa using h1
theorem fe_flat_at {α : Type} {l : List α} {F : α → List Int} {k : Nat} {x : α} (h0 : fe ((l.take k).flatMap F) = 0) (hx : l[k]? = some x) (h1 : fe (F x) ≠ 0) (rest : List Int) : fe (l.flatMap F ++ rest) = fe (F x) := by
  have hk : k < l.length := (List.getElem?_eq_some_iff.1 hx).1
  have hd : l = l.take k ++ (x :: l.drop (k + 1)) := by
    have h1 : x :: l.drop (k + 1) = l.drop k := by
      rw [List.drop_eq_getElem_cons hk]
      rw [List.getElem?_eq_getElem hk] at hx
      injection hx with hx
      rw [hx]
    rw [h1, List.take_append_drop]
  have e : l.flatMap F = (l.take k).flatMap F ++ (F x ++ (l.drop (k + 1)).flatMap F) := by
    conv => lhs; rw [hd]
    rw [List.flatMap_append, List.flatMap_cons]
  rw [e, List.append_assoc, fe_append, if_pos h0, List.append_assoc, fe_append, if_neg h1]

theorem checkTxn_parts {t : Txn} (hs : sizesOk t) (h : (t.reads ++ keysOf t).all isKeyB = true) (hr : (rising t.reads && rising (keysOf t)) = true) : checkTxn t = fe (partErrs t) := by unfold checkTxn; rw [if_pos hs, h, if_pos rfl, hr]; rfl

theorem get_guard {w : World} {A : Option Addr} {n k : Nat} {l : List Guard} (h : Rd 5 encG w A n l) (hk : k < n) :
    ∃ b o gk ak an bk bn, A = some ⟨b, o, none⟩ ∧ b < w.heap.size ∧ Hid (l[k]? = some ⟨gk, ⟨ak, an⟩, ⟨bk, bn⟩⟩) ∧ w.cell? ⟨b, o + k * 5, none⟩ = some (.int .i64 gk) ∧ w.cell? ⟨b, o + k * 5 + 1, none⟩ = some (.int .i64 ak) ∧ w.cell? ⟨b, o + k * 5 + 2, none⟩ = some (.int .i64 an) ∧
      w.cell? ⟨b, o + k * 5 + 3, none⟩ = some (.int .i64 bk) ∧ w.cell? ⟨b, o + k * 5 + 4, none⟩ = some (.int .i64 bn) := by
  obtain ⟨⟨gk, ⟨ak, an⟩, ⟨bk, bn⟩⟩, hx⟩ := get_of_lt h.1 hk
  obtain ⟨b, o, hA, hb, hc⟩ := h.2.at_ hx.out
  exact ⟨b, o, gk, ak, an, bk, bn, hA, hb, hx, hc 0 _ rfl, hc 1 _ rfl, hc 2 _ rfl, hc 3 _ rfl, hc 4 _ rfl⟩
theorem get_set {w : World} {A : Option Addr} {n k : Nat} {l : List SetT} (h : Rd 6 encS w A n l) (hk : k < n) :
    ∃ b o key op ak an bk bn, A = some ⟨b, o, none⟩ ∧ b < w.heap.size ∧ Hid (l[k]? = some ⟨key, op, ⟨ak, an⟩, ⟨bk, bn⟩⟩) ∧ w.cell? ⟨b, o + k * 6, none⟩ = some (.int .i64 key) ∧ w.cell? ⟨b, o + k * 6 + 1, none⟩ = some (.int .i64 op) ∧ w.cell? ⟨b, o + k * 6 + 2, none⟩ = some (.int .i64 ak) ∧ w.cell? ⟨b, o + k * 6 + 3, none⟩ = some (.int .i64 an) ∧
      w.cell? ⟨b, o + k * 6 + 4, none⟩ = some (.int .i64 bk) ∧ w.cell? ⟨b, o + k * 6 + 5, none⟩ = some (.int .i64 bn) := by
  obtain ⟨⟨key, op, ⟨ak, an⟩, ⟨bk, bn⟩⟩, hx⟩ := get_of_lt h.1 hk
  obtain ⟨b, o, hA, hb, hc⟩ := h.2.at_ hx.out
  exact ⟨b, o, key, op, ak, an, bk, bn, hA, hb, hx, hc 0 _ rfl, hc 1 _ rfl, hc 2 _ rfl, hc 3 _ rfl, hc 4 _ rfl, hc 5 _ rfl⟩

def gW (wr : World) (gk ak an bk bn : Int) : World := wr.alloc (.cells #[.int .i64 gk, .int .i64 ak, .int .i64 an, .int .i64 bk, .int .i64 bn] 89)
theorem gS {wr W : World} {gk ak an bk bn : Int} (h : Below (wr.alloc (.cells #[.int .i64 gk, .int .i64 ak, .int .i64 an, .int .i64 bk, .int .i64 bn] 89)).heap.size (wr.alloc (.cells #[.int .i64 gk, .int .i64 ak, .int .i64 an, .int .i64 bk, .int .i64 bn] 89)) W) :
    Below (wr.alloc (.cells #[.int .i64 gk, .int .i64 ak, .int .i64 an, .int .i64 bk, .int .i64 bn] 89)).heap.size (wr.alloc (.cells #[.int .i64 gk, .int .i64 ak, .int .i64 an, .int .i64 bk, .int .i64 bn] 89)) W ∧ W.cell? ⟨wr.heap.size, 1, none⟩ = some (.int .i64 ak) ∧ W.cell? ⟨wr.heap.size, 2, none⟩ = some (.int .i64 an) ∧ W.cell? ⟨wr.heap.size, 3, none⟩ = some (.int .i64 bk) ∧ W.cell? ⟨wr.heap.size, 4, none⟩ = some (.int .i64 bn) := by
  refine ⟨h, ?_, ?_, ?_, ?_⟩
  all_goals
    refine (h.cell (by simp)).trans ?_
    simp [World.cell?_alloc_new]

theorem sS {wr W : World} {key op ak an bk bn : Int} (h : Below (wr.alloc (.cells #[.int .i64 key, .int .i64 op, .int .i64 ak, .int .i64 an, .int .i64 bk, .int .i64 bn] 141)).heap.size (wr.alloc (.cells #[.int .i64 key, .int .i64 op, .int .i64 ak, .int .i64 an, .int .i64 bk, .int .i64 bn] 141)) W) :
    Below (wr.alloc (.cells #[.int .i64 key, .int .i64 op, .int .i64 ak, .int .i64 an, .int .i64 bk, .int .i64 bn] 141)).heap.size (wr.alloc (.cells #[.int .i64 key, .int .i64 op, .int .i64 ak, .int .i64 an, .int .i64 bk, .int .i64 bn] 141)) W ∧ W.cell? ⟨wr.heap.size, 2, none⟩ = some (.int .i64 ak) ∧ W.cell? ⟨wr.heap.size, 3, none⟩ = some (.int .i64 an) ∧ W.cell? ⟨wr.heap.size, 4, none⟩ = some (.int .i64 bk) ∧ W.cell? ⟨wr.heap.size, 5, none⟩ = some (.int .i64 bn) := by
  refine ⟨h, ?_, ?_, ?_, ?_⟩
  all_goals
    refine (h.cell (by simp)).trans ?_
    simp [World.cell?_alloc_new]

set_option maxRecDepth 100000 in
set_option maxHeartbeats 16000000 in
theorem txn_Check_parts (ra ga sa : Option Addr) (nr rc ng gc ns sc : Nat) (t : Txn) (w : World) (h : TxnAt w ra nr ga ng sa ns t) (hr4 : nr ≤ 4) (hg2 : ng ≤ 2) (hs0 : 0 < ns) (hs3 : ns ≤ 3) (hall : (t.reads ++ keysOf t).all isKeyB = true)
    (hri : (rising t.reads && rising (keysOf t)) = true) (res : Int) (hres : Hid (res = fe (t.guards.flatMap (gErrs nr) ++ t.sets.flatMap (sErrs nr)))) :
    Calls Try.prog 41 #[.agg #[.slice ra nr rc, .slice ga ng gc, .slice sa ns sc]] w fun e w' => e = .returned (.int .i64 res) ∧ Below w.heap.size w w' := by
  obtain ⟨hq1, hq2⟩ : rising t.reads = true ∧ rising (keysOf t) = true := by simpa using hri
  clear hri
  have hmf : ∀ (fn : Fn) (first cap : Array Value) (w : World), (Instr.makeFunc fn first cap).run Try.prog w = .ok (.func fn first cap) w := fun _ _ _ _ => rfl
  have hW := ((h.alloc (.cells #[.slice ra nr rc, .slice ga ng gc, .slice sa ns sc] 72)).alloc (.cells #[.int .i64 0] 33))
  have hNO := Lib.hid (List.all_eq_true.1 hall)
  clear hall
  go_enter_defers Try.func41, Try.ntmps41
  go_wp2_with (first
    | (go_at_call 84; refine (txn_Keys_rd _ _ _ _ _ _ _ _ _ t _ hW).mono ?_; rintro e w1 ⟨A, c, rfl, hrd, hb⟩; have hrr := hW.1.below hb; have hrg := hW.2.1.below hb; have hrs := hW.2.2.1.below hb; rw [ckW_eq] at hb; have HB := hb; have HC := ck_cells hb; clear hb)
    | (go_at_call 97; refine (txn_unless _ _ _).mono ?_; rintro e w' ⟨rfl, rfl⟩)
    | (go_at_call 96; refine (txn_must_ok _ 1 _ [0] _ (by omega) (by exact Rd.new _ encI_len (by simp) rfl rfl) rfl).mono ?_; rintro e w' ⟨rfl, rfl⟩)
    | (go_at_call 98; refine (slices_Concat_new _ _ _ _ _ _ _ _ _ t.reads (keysOf t) _ (World.size_alloc _ _).symm (hrr.alloc _) (hrd.alloc _) (by omega)).mono ?_; rintro e w2 ⟨A2, c2, rfl, hrd2, hb⟩; have HB1 := Below.trans (Bel.alloc (Bel.alloc (Below.refl w1.heap.size w1) _) _) (hb.mono (by simp; omega)); (first | (replace HB := Bel.step HB hb) | (replace HB := Bel.step (Bel.alloc HB _) hb) | (replace HB := Bel.step (Bel.alloc (Bel.alloc HB _) _) hb) | (replace HB := Bel.step (Bel.alloc (Bel.alloc (Bel.alloc HB _) _) _) hb) | (replace HB := Bel.step (Bel.alloc (Bel.alloc (Bel.alloc (Bel.alloc HB _) _) _) _) hb) | (replace HB := Bel.step (Bel.alloc (Bel.alloc (Bel.alloc (Bel.alloc (Bel.alloc HB _) _) _) _) _) hb) | (replace HB := Bel.step (Bel.alloc (Bel.alloc (Bel.alloc (Bel.alloc (Bel.alloc (Bel.alloc HB _) _) _) _) _) _) hb) | (replace HB := Bel.step (Bel.drew HB) hb) | (replace HB := Bel.step (Bel.drewN HB _) hb) | (replace HB := Bel.step (Bel.alloc (Bel.drewN HB _) _) hb)); replace HC := ck_cells HB; clear hb))
  have hs2 := hrd2.2
  have hN := Lib.hid hrd2.1
  go_loopw [47] (fun i wr => ∃ k : Nat, k ≤ nr + ns ∧ i = .int .i64 k ∧ Below (ckW w ra nr rc ga ng gc sa ns sc).heap.size (ckW w ra nr rc ga ng gc sa ns sc) wr ∧ Below w2.heap.size w2 wr) (fun i _ => nr + ns - (intOf i).toNat)
  case atStart => exact ⟨0, by omega, rfl, HB, Below.refl _ _⟩
  case round =>
    obtain ⟨k, hk, rfl, HBr, HB2⟩ := hrel
    clear HC
    have HC := ck_cells HBr
    by_cases hlt : k < nr + ns
    · have hsr := hs2.below HB2
      obtain ⟨b, o, x, rfl, hbx, hx, hc⟩ := hsr.int (i := k) (by have := hN.out; omega)
      obtain ⟨x1, x2⟩ := isKeyB_true (hNO.out x (List.mem_of_getElem? hx.out))
      go_wp2_with (first
        | (go_at_call 97; refine (txn_unless _ _ _).mono ?_; rintro e w' ⟨rfl, rfl⟩)
        | (go_at_call 96; refine (txn_must_ok _ 1 _ [0] _ (by omega) (by exact Rd.new _ encI_len (by simp) rfl rfl) rfl).mono ?_; rintro e w' ⟨rfl, rfl⟩))
      go_roundw
      case rel => exact ⟨k + 1, by omega, by go_num, Bel.alloc HBr _, Bel.alloc HB2 _⟩
      case measure => simp [intOf]; omega
    · have HBx : Below w1.heap.size w1 wr := HB1.trans (HB2.mono HB1.size)
      have q1 := hrr.below HBx
      have q2 := hrd.below HBx
      have qg := hrg.below HBx
      have qs := hrs.below HBx
      clear HB
      have HB := HBr
      go_wp2_with (first
        | (go_at_call_of 99 (Value.slice ra nr rc); refine (txn_rising _ _ _ t.reads _ (by omega) q1).mono ?_; rintro e w3 ⟨rfl, hb⟩; have q3 := q2.below hb; have qg3 := qg.below hb; have qs3 := qs.below hb; (first | (replace HB := Bel.step HB hb) | (replace HB := Bel.step (Bel.alloc HB _) hb) | (replace HB := Bel.step (Bel.alloc (Bel.alloc HB _) _) hb) | (replace HB := Bel.step (Bel.alloc (Bel.alloc (Bel.alloc HB _) _) _) hb) | (replace HB := Bel.step (Bel.alloc (Bel.alloc (Bel.alloc (Bel.alloc HB _) _) _) _) hb) | (replace HB := Bel.step (Bel.alloc (Bel.alloc (Bel.alloc (Bel.alloc (Bel.alloc HB _) _) _) _) _) hb) | (replace HB := Bel.step (Bel.alloc (Bel.alloc (Bel.alloc (Bel.alloc (Bel.alloc (Bel.alloc HB _) _) _) _) _) _) hb) | (replace HB := Bel.step (Bel.drew HB) hb) | (replace HB := Bel.step (Bel.drewN HB _) hb) | (replace HB := Bel.step (Bel.alloc (Bel.drewN HB _) _) hb)); replace HC := ck_cells HB; clear hb)
        | (go_at_call_of 99 (Value.slice A ns c); refine (txn_rising _ _ _ (keysOf t) _ (by omega) q3).mono ?_; rintro e w4 ⟨rfl, hb⟩; have qg4 := qg3.below hb; have qs4 := qs3.below hb; (first | (replace HB := Bel.step HB hb) | (replace HB := Bel.step (Bel.alloc HB _) hb) | (replace HB := Bel.step (Bel.alloc (Bel.alloc HB _) _) hb) | (replace HB := Bel.step (Bel.alloc (Bel.alloc (Bel.alloc HB _) _) _) hb) | (replace HB := Bel.step (Bel.alloc (Bel.alloc (Bel.alloc (Bel.alloc HB _) _) _) _) hb) | (replace HB := Bel.step (Bel.alloc (Bel.alloc (Bel.alloc (Bel.alloc (Bel.alloc HB _) _) _) _) _) hb) | (replace HB := Bel.step (Bel.alloc (Bel.alloc (Bel.alloc (Bel.alloc (Bel.alloc (Bel.alloc HB _) _) _) _) _) _) hb) | (replace HB := Bel.step (Bel.drew HB) hb) | (replace HB := Bel.step (Bel.drewN HB _) hb) | (replace HB := Bel.step (Bel.alloc (Bel.drewN HB _) _) hb)); replace HC := ck_cells HB; clear hb)
        | (go_at_call 97; refine (txn_unless _ _ _).mono ?_; rintro e w' ⟨rfl, rfl⟩)
        | (go_at_call 96; refine (txn_must_ok _ 1 _ [0] _ (by omega) (by exact Rd.new _ encI_len (by simp) rfl rfl) rfl).mono ?_; rintro e w' ⟨rfl, rfl⟩))
      have hz0 : Hid (fe ((t.guards.take 0).flatMap (gErrs nr)) = 0) := by show fe _ = 0; simp [fe]
      have HB5 : Below w4.heap.size w4 (w4.alloc (.cells #[.int .i64 0] 33)) := Bel.alloc (Below.refl _ _) _
      go_loopw [77] (fun i wr => ∃ m : Nat, m ≤ ng ∧ i = .int .i64 m ∧ Hid (fe ((t.guards.take m).flatMap (gErrs nr)) = 0) ∧ Below (ckW w ra nr rc ga ng gc sa ns sc).heap.size (ckW w ra nr rc ga ng gc sa ns sc) wr ∧ Below w4.heap.size w4 wr) (fun i _ => ng - (intOf i).toNat)
      case atStart => exact ⟨0, by omega, rfl, hz0, Bel.alloc HB _, HB5⟩
      case round =>
        obtain ⟨m, hm, rfl, hfe, HBm, HB4⟩ := hrel
        clear HC
        have HC := ck_cells HBm
        by_cases hmlt : m < ng
        · obtain ⟨b, o, gk, ak, an, bk, bn, rfl, hbx, hx, c0, c1, c2, c3, c4⟩ := get_guard (qg4.below HB4) hmlt
          by_cases hz : fe (gErrs nr ⟨gk, ⟨ak, an⟩, ⟨bk, bn⟩⟩) = 0
          · have hnext := Lib.hid (fe_flat_next hfe.out hx.out hz)
            have hZ := Lib.hid hz
            clear hz
            go_wp2_with (go_at_call 100; refine (vals_Holds _ _ _ _).mono ?_; rintro e w' ⟨rfl, rfl⟩)
            go_region_held3 (fun W => Below (wr.alloc (.cells #[.int .i64 gk, .int .i64 ak, .int .i64 an, .int .i64 bk, .int .i64 bn] 89)).heap.size (wr.alloc (.cells #[.int .i64 gk, .int .i64 ak, .int .i64 an, .int .i64 bk, .int .i64 bn] 89)) W ∧ W.cell? ⟨wr.heap.size, 1, none⟩ = some (.int .i64 ak) ∧ W.cell? ⟨wr.heap.size, 2, none⟩ = some (.int .i64 an) ∧ W.cell? ⟨wr.heap.size, 3, none⟩ = some (.int .i64 bk) ∧ W.cell? ⟨wr.heap.size, 4, none⟩ = some (.int .i64 bn))
              (first | (refine ⟨HR, ?_⟩; (repeat' apply And.intro) <;> (refine (HR.cell (by simp)).trans ?_; simp [World.cell?_alloc_new]; done)) | (refine ⟨Bel.alloc HR _, ?_⟩; (repeat' apply And.intro) <;> (refine ((Bel.alloc HR _).cell (by simp)).trans ?_; simp [World.cell?_alloc_new]; done)) | (refine ⟨(Below.refl _ _).drew, ?_⟩; (repeat' apply And.intro) <;> (simp [go_sem]; done)))
              (first
                | (go_at_call 101; refine (vals_Check _ _ _ _).mono ?_; rintro e w' ⟨rfl, hb⟩; have HR := Rg.step (by assumption) hb)
                | (go_at_call 96; refine (txn_must_ok _ 3 _ (gErrs nr ⟨gk, ⟨ak, an⟩, ⟨bk, bn⟩⟩) _ (by omega) (by exact Rd.new _ encI_len (by simp) rfl rfl) hZ.out).mono ?_; rintro e w' ⟨rfl, rfl⟩))
            go_wp2
            go_roundw
            case rel => exact ⟨m + 1, by omega, by go_num, hnext, Bel.alloc (Bel.step (Bel.alloc HBm _) HR) _, Bel.alloc (Bel.step (Bel.alloc HB4 _) HR) _⟩
            case measure => simp [intOf]; omega
          · have hthrow : Hid (fe (gErrs nr ⟨gk, ⟨ak, an⟩, ⟨bk, bn⟩⟩) = res) := by rw [hres.out]; exact (fe_flat_at hfe.out hx.out hz _).symm
            have hZ := Lib.hid hz
            clear hz
            go_wp2_with (go_at_call 100; refine (vals_Holds _ _ _ _).mono ?_; rintro e w' ⟨rfl, rfl⟩)
            refine wp_region_free (S := fun W => Below (wr.alloc (.cells #[.int .i64 gk, .int .i64 ak, .int .i64 an, .int .i64 bk, .int .i64 bn] 89)).heap.size (wr.alloc (.cells #[.int .i64 gk, .int .i64 ak, .int .i64 an, .int .i64 bk, .int .i64 bn] 89)) W ∧ W.cell? ⟨wr.heap.size, 1, none⟩ = some (.int .i64 ak) ∧ W.cell? ⟨wr.heap.size, 2, none⟩ = some (.int .i64 an) ∧ W.cell? ⟨wr.heap.size, 3, none⟩ = some (.int .i64 bk) ∧ W.cell? ⟨wr.heap.size, 4, none⟩ = some (.int .i64 bn))
              (s := 2) (u := .pointer (some ⟨w.heap.size + 1, 0, none⟩)) (D := [{ target := Target.fn (Fn.func 95) #[.pointer (some ⟨w.heap.size + 1, 0, none⟩)], args := #[] }])
              (R := fun c W => c = [{ v := .iface 147 (.agg #[.int .i64 res]), recovered := false }] ∧ Below (ckW w ra nr rc (some ⟨b, o, none⟩) ng gc sa ns sc).heap.size (ckW w ra nr rc (some ⟨b, o, none⟩) ng gc sa ns sc) W)
              (by kernel_rfl) (by rfl) rfl ?_ ?_ (fun hS => ?_)
            · rintro c ⟨T, dfs⟩ W ha ⟨hc, hB⟩ hdf
              subst hc
              simp only at hdf
              subst hdf
              exact ck_throw hB rfl ha
            · exact ⟨(Below.refl _ _).drew, by simp [go_sem], by simp [go_sem], by simp [go_sem], by simp [go_sem]⟩
            · refine wpAnyH_take (i := 0) (v := .int .i64 (holdsE gk)) rfl (by kernel_rfl) (by kernel_rfl) (by kernel_rfl) (fun _ _ _ h => h) (Or.inl ⟨by rfl, ?_⟩) hS ?_
              · intro W hW; obtain ⟨_, d1, d2, d3, d4⟩ := hW; clear HC hS; go_simp
              refine wpAnyH_take (i := 1) (v := .pointer (some ⟨wr.heap.size, 1, none⟩)) rfl (by kernel_rfl) (by kernel_rfl) (by kernel_rfl) (fun _ _ _ h => h) (Or.inl ⟨by rfl, ?_⟩) hS ?_
              · intro W hW; obtain ⟨_, d1, d2, d3, d4⟩ := hW; clear HC hS; go_simp
              refine wpAnyH_take (i := 2) (v := .agg #[.int .i64 ak, .int .i64 an]) rfl (by kernel_rfl) (by kernel_rfl) (by kernel_rfl) (fun _ _ _ h => h) (Or.inl ⟨by rfl, ?_⟩) hS ?_
              · intro W hW; obtain ⟨_, d1, d2, d3, d4⟩ := hW; clear HC hS; go_simp
              refine wpAnyH_take (i := 3) (v := .int .i64 nr) rfl (by kernel_rfl) (by kernel_rfl) (by kernel_rfl) (fun _ _ _ h => h) (Or.inl ⟨by rfl, ?_⟩) hS ?_
              · intro W hW; obtain ⟨_, d1, d2, d3, d4⟩ := hW; clear HC hS; go_simp
              refine wpAnyH_take (i := 5) (v := .pointer (some ⟨wr.heap.size, 3, none⟩)) rfl (by kernel_rfl) (by kernel_rfl) (by kernel_rfl) (fun _ _ _ h => h) (Or.inl ⟨by rfl, ?_⟩) hS ?_
              · intro W hW; obtain ⟨_, d1, d2, d3, d4⟩ := hW; clear HC hS; go_simp
              refine wpAnyH_take (i := 6) (v := .agg #[.int .i64 bk, .int .i64 bn]) rfl (by kernel_rfl) (by kernel_rfl) (by kernel_rfl) (fun _ _ _ h => h) (Or.inl ⟨by rfl, ?_⟩) hS ?_
              · intro W hW; obtain ⟨_, d1, d2, d3, d4⟩ := hW; clear HC hS; go_simp
              refine wpAnyH_take (i := 7) (v := .int .i64 nr) rfl (by kernel_rfl) (by kernel_rfl) (by kernel_rfl) (fun _ _ _ h => h) (Or.inl ⟨by rfl, ?_⟩) hS ?_
              · intro W hW; obtain ⟨_, d1, d2, d3, d4⟩ := hW; clear HC hS; go_simp
              refine wpAnyH_ready (rs := [4]) (by kernel_rfl) (by simp) (AllReadyH.cons rfl (fun K hK => ?_) AllReadyH.nil)
              go_simp
              go_wp2_with (go_at_call 101; refine (vals_Check _ _ _ _).mono ?_; rintro e w5 ⟨rfl, hb⟩)
              have hS5 := gS (Bel.step hS.1 hb)
              refine hK.out _ _ hS5 (fun hS => ?_)
              clear hK K hb
              refine wpAnyH_ready (rs := [8]) (by kernel_rfl) (by simp) (AllReadyH.cons rfl (fun K hK => ?_) AllReadyH.nil)
              go_simp
              go_wp2_with (go_at_call 101; refine (vals_Check _ _ _ _).mono ?_; rintro e w6 ⟨rfl, hb⟩)
              have hS6 := gS (Bel.step hS5.1 hb)
              refine hK.out _ _ hS6 (fun hS => ?_)
              clear hK K hb
              refine wpAnyH_ready (rs := [9]) (by kernel_rfl) (by simp) (AllReadyH.cons rfl (fun K hK => ?_) AllReadyH.nil)
              go_simp
              have hS7 := gS (Bel.alloc hS6.1 (.cells #[.int .i64 (holdsE gk), .int .i64 (checkOp ak an nr), .int .i64 (checkOp bk bn nr)] 33))
              refine hK.out _ _ hS7 (fun hS => ?_)
              clear hK K
              refine wpAnyH_ready (rs := [10]) (by kernel_rfl) (by simp) (AllReadyH.cons rfl (fun K hK => ?_) AllReadyH.nil)
              go_simp
              go_wp2_with (go_at_call 96; refine (txn_must_no _ 3 _ (gErrs nr ⟨gk, ⟨ak, an⟩, ⟨bk, bn⟩⟩) _ (by omega) (by exact Rd.new _ encI_len (by simp) rfl rfl) hZ.out).mono ?_; rintro e w' ⟨rfl, rfl⟩)
              exact ⟨⟨by rw [hthrow.out], Bel.step (Bel.alloc HBm _) hS7.1⟩, rfl⟩
        · have hG : Hid (fe (t.guards.flatMap (gErrs nr)) = 0) := by
            have := hfe.out
            rwa [List.take_of_length_le (by have := qg4.1; omega)] at this
          have qs5 := qs4.below HB4
          obtain ⟨wo, hwo⟩ : ∃ wo : World, wo = wr := ⟨_, rfl⟩
          subst hwo
          have hz0' : Hid (fe ((t.sets.take 0).flatMap (sErrs nr)) = 0) := by show fe _ = 0; simp [fe]
          go_wp2
          go_loopw [102] (fun i wv => ∃ j : Nat, j ≤ ns ∧ i = .int .i64 j ∧ Hid (fe ((t.sets.take j).flatMap (sErrs nr)) = 0) ∧ Below (ckW w ra nr rc ga ng gc sa ns sc).heap.size (ckW w ra nr rc ga ng gc sa ns sc) wv ∧ Below wo.heap.size wo wv) (fun i _ => ns - (intOf i).toNat)
          case atStart => exact ⟨0, by omega, rfl, hz0', HBm, Below.refl _ _⟩
          case round =>
            obtain ⟨j, hj, rfl, hfs, HBs, HB6⟩ := hrel
            clear HC
            have HC := ck_cells HBs
            by_cases hjlt : j < ns
            · obtain ⟨b, o, key, op, ak, an, bk, bn, rfl, hbx, hx, c0, c1, c2, c3, c4, c5⟩ := get_set (qs5.below HB6) hjlt
              by_cases hz : fe (sErrs nr ⟨key, op, ⟨ak, an⟩, ⟨bk, bn⟩⟩) = 0
              · have hnext := Lib.hid (fe_flat_next hfs.out hx.out hz)
                have hZ := Lib.hid hz
                clear hz
                go_wp2_with (go_at_call 102; refine (vals_Reckon _ _ _ _).mono ?_; rintro e w7 ⟨rfl, h7⟩; have HD := bcell h7)
                go_region_held3 (fun W => Below (wr.alloc (.cells #[.int .i64 key, .int .i64 op, .int .i64 ak, .int .i64 an, .int .i64 bk, .int .i64 bn] 141)).heap.size (wr.alloc (.cells #[.int .i64 key, .int .i64 op, .int .i64 ak, .int .i64 an, .int .i64 bk, .int .i64 bn] 141)) W ∧ W.cell? ⟨wr.heap.size, 2, none⟩ = some (.int .i64 ak) ∧ W.cell? ⟨wr.heap.size, 3, none⟩ = some (.int .i64 an) ∧ W.cell? ⟨wr.heap.size, 4, none⟩ = some (.int .i64 bk) ∧ W.cell? ⟨wr.heap.size, 5, none⟩ = some (.int .i64 bn))
                  (first | exact sS HR | exact sS (Bel.alloc HR _) | exact sS h7.drew)
                  (first
                    | (go_at_call 101; refine (vals_Check _ _ _ _).mono ?_; rintro e w' ⟨rfl, hb⟩; have HR := Rg.step (by assumption) hb)
                    | (go_at_call 96; refine (txn_must_ok _ 3 _ (sErrs nr ⟨key, op, ⟨ak, an⟩, ⟨bk, bn⟩⟩) _ (by omega) (by exact Rd.new _ encI_len (by simp) rfl rfl) hZ.out).mono ?_; rintro e w' ⟨rfl, rfl⟩))
                go_wp2
                go_roundw
                case rel => exact ⟨j + 1, by omega, by go_num, hnext, Bel.alloc (Bel.step (Bel.alloc HBs _) HR) _, Bel.alloc (Bel.step (Bel.alloc HB6 _) HR) _⟩
                case measure => simp [intOf]; omega
              · have hthrow : Hid (fe (sErrs nr ⟨key, op, ⟨ak, an⟩, ⟨bk, bn⟩⟩) = res) := by rw [hres.out, fe_append, if_pos hG.out]; have := (fe_flat_at hfs.out hx.out hz []).symm; rwa [List.append_nil] at this
                have hZ := Lib.hid hz
                clear hz
                go_wp2_with (go_at_call 102; refine (vals_Reckon _ _ _ _).mono ?_; rintro e w7 ⟨rfl, h7⟩; have HD := bcell h7)
                refine wp_region_free (S := (fun W => Below (wr.alloc (.cells #[.int .i64 key, .int .i64 op, .int .i64 ak, .int .i64 an, .int .i64 bk, .int .i64 bn] 141)).heap.size (wr.alloc (.cells #[.int .i64 key, .int .i64 op, .int .i64 ak, .int .i64 an, .int .i64 bk, .int .i64 bn] 141)) W ∧ W.cell? ⟨wr.heap.size, 2, none⟩ = some (.int .i64 ak) ∧ W.cell? ⟨wr.heap.size, 3, none⟩ = some (.int .i64 an) ∧ W.cell? ⟨wr.heap.size, 4, none⟩ = some (.int .i64 bk) ∧ W.cell? ⟨wr.heap.size, 5, none⟩ = some (.int .i64 bn)))
                  (s := 2) (u := .pointer (some ⟨w.heap.size + 1, 0, none⟩)) (D := [{ target := Target.fn (Fn.func 95) #[.pointer (some ⟨w.heap.size + 1, 0, none⟩)], args := #[] }])
                  (R := fun c W => c = [{ v := .iface 147 (.agg #[.int .i64 res]), recovered := false }] ∧ Below (ckW w ra nr rc ga ng gc (some ⟨b, o, none⟩) ns sc).heap.size (ckW w ra nr rc ga ng gc (some ⟨b, o, none⟩) ns sc) W)
                  (by kernel_rfl) (by rfl) rfl ?_ ?_ (fun hS => ?_)
                · rintro c ⟨T, dfs⟩ W ha ⟨hc, hB⟩ hdf
                  subst hc
                  simp only at hdf
                  subst hdf
                  exact ck_throw hB rfl ha
                · exact sS h7.drew
                · clear HD
                  refine wpAnyH_take (i := 0) (v := .int .i64 (reckonE op)) rfl (by kernel_rfl) (by kernel_rfl) (by kernel_rfl) (fun _ _ _ h => h) (Or.inl ⟨by rfl, ?_⟩) hS ?_
                  · intro W hW; obtain ⟨_, d1, d2, d3, d4⟩ := hW; clear HC hS; go_simp
                  refine wpAnyH_take (i := 1) (v := .pointer (some ⟨wr.heap.size, 2, none⟩)) rfl (by kernel_rfl) (by kernel_rfl) (by kernel_rfl) (fun _ _ _ h => h) (Or.inl ⟨by rfl, ?_⟩) hS ?_
                  · intro W hW; obtain ⟨_, d1, d2, d3, d4⟩ := hW; clear HC hS; go_simp
                  refine wpAnyH_take (i := 2) (v := .agg #[.int .i64 ak, .int .i64 an]) rfl (by kernel_rfl) (by kernel_rfl) (by kernel_rfl) (fun _ _ _ h => h) (Or.inl ⟨by rfl, ?_⟩) hS ?_
                  · intro W hW; obtain ⟨_, d1, d2, d3, d4⟩ := hW; clear HC hS; go_simp
                  refine wpAnyH_take (i := 3) (v := .int .i64 nr) rfl (by kernel_rfl) (by kernel_rfl) (by kernel_rfl) (fun _ _ _ h => h) (Or.inl ⟨by rfl, ?_⟩) hS ?_
                  · intro W hW; obtain ⟨_, d1, d2, d3, d4⟩ := hW; clear HC hS; go_simp
                  refine wpAnyH_take (i := 5) (v := .pointer (some ⟨wr.heap.size, 4, none⟩)) rfl (by kernel_rfl) (by kernel_rfl) (by kernel_rfl) (fun _ _ _ h => h) (Or.inl ⟨by rfl, ?_⟩) hS ?_
                  · intro W hW; obtain ⟨_, d1, d2, d3, d4⟩ := hW; clear HC hS; go_simp
                  refine wpAnyH_take (i := 6) (v := .agg #[.int .i64 bk, .int .i64 bn]) rfl (by kernel_rfl) (by kernel_rfl) (by kernel_rfl) (fun _ _ _ h => h) (Or.inl ⟨by rfl, ?_⟩) hS ?_
                  · intro W hW; obtain ⟨_, d1, d2, d3, d4⟩ := hW; clear HC hS; go_simp
                  refine wpAnyH_take (i := 7) (v := .int .i64 nr) rfl (by kernel_rfl) (by kernel_rfl) (by kernel_rfl) (fun _ _ _ h => h) (Or.inl ⟨by rfl, ?_⟩) hS ?_
                  · intro W hW; obtain ⟨_, d1, d2, d3, d4⟩ := hW; clear HC hS; go_simp
                  refine wpAnyH_ready (rs := [4]) (by kernel_rfl) (by simp) (AllReadyH.cons rfl (fun K hK => ?_) AllReadyH.nil)
                  go_simp
                  go_wp2_with (go_at_call 101; refine (vals_Check _ _ _ _).mono ?_; rintro e w5 ⟨rfl, hb⟩)
                  have hS5 := sS (Bel.step hS.1 hb)
                  refine hK.out _ _ hS5 (fun hS => ?_)
                  clear hK K hb
                  refine wpAnyH_ready (rs := [8]) (by kernel_rfl) (by simp) (AllReadyH.cons rfl (fun K hK => ?_) AllReadyH.nil)
                  go_simp
                  go_wp2_with (go_at_call 101; refine (vals_Check _ _ _ _).mono ?_; rintro e w6 ⟨rfl, hb⟩)
                  have hS6 := sS (Bel.step hS5.1 hb)
                  refine hK.out _ _ hS6 (fun hS => ?_)
                  clear hK K hb
                  refine wpAnyH_ready (rs := [9]) (by kernel_rfl) (by simp) (AllReadyH.cons rfl (fun K hK => ?_) AllReadyH.nil)
                  go_simp
                  have hS7 := sS (Bel.alloc hS6.1 (.cells #[.int .i64 (reckonE op), .int .i64 (checkOp ak an nr), .int .i64 (checkOp bk bn nr)] 33))
                  refine hK.out _ _ hS7 (fun hS => ?_)
                  clear hK K
                  refine wpAnyH_ready (rs := [10]) (by kernel_rfl) (by simp) (AllReadyH.cons rfl (fun K hK => ?_) AllReadyH.nil)
                  go_simp
                  go_wp2_with (go_at_call 96; refine (txn_must_no _ 3 _ (sErrs nr ⟨key, op, ⟨ak, an⟩, ⟨bk, bn⟩⟩) _ (by omega) (by exact Rd.new _ encI_len (by simp) rfl rfl) hZ.out).mono ?_; rintro e w' ⟨rfl, rfl⟩)
                  exact ⟨⟨by rw [hthrow.out], Bel.step (Bel.alloc HBs _) hS7.1⟩, rfl⟩
            · have hend : res = 0 := by
                rw [hres.out, fe_append, if_pos hG.out]
                have := hfs.out
                rwa [List.take_of_length_le (by have := qs5.1; omega)] at this
              have hE := Lib.hid hend
              clear hend
              go_wp2
              exact ck_fine HBs hE.out rfl

end Go.Proofs.Ytjgmbgfcffnanac
