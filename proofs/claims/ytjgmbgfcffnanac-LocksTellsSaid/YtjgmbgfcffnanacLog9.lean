/- The logic's rules in the form in which a walk applies them. Over any program. No condition. -/
import Derived.Test.YtjgmbgfcffnanacLog8
namespace Go.Proofs.Ytjgmbgfcffnanac
open Go.RowKit

def dokD (nt : Nat) (d : Option Tmp) : Bool := match d with
  | some d => Nat.blt d nt
  | none => true
def ALK (C : Cfg) (ops : Array Oper) (nt : Nat) (dn : List Nat) (l : List Oper) (x : St) (K : List Nat → St → Prop) : Prop := ∃ ks ss y, AL C ops nt ks l x ss y ∧ K (dn.reverse ++ ks) y
section
variable {C : Cfg} {F : Fx} {nt : Nat} {ops : Array Oper} {σ : Env} {H H' : List Ent} {fr fr' : Nat} {dn : List Nat} {l : List Oper} {s : SV} {d : Option Tmp} {op : Op} {ty : TypeId} {pos : String} {after : Array Edge} {K : List Nat → St → Prop}
theorem ALK.step {k : Nat} {o : Oper} {x y : St} (h : Step1 C ops nt k o x s y) (t : ALK C ops nt (k :: dn) l y K) : ALK C ops nt dn (o :: l) x K := by
  obtain ⟨ks, ss, z, h1, h2⟩ := t
  exact ⟨k :: ks, s :: ss, z, .cons h h1, by simpa using h2⟩
theorem ALK.n (h : OpN C ⟨d, op, ty, pos, after, none⟩ σ s) (hd : dokD nt d = true) (t : ALK C ops nt (0 :: dn) l ⟨bnd d s σ, H, fr⟩ K) : ALK C ops nt dn (⟨d, op, ty, pos, after, none⟩ :: l) ⟨σ, H, fr⟩ K :=
  .step (.n (.inl rfl) hd h) t
theorem ALK.g {j e : Nat} {b c : Bool} (h : gd b c = true → OpN C ⟨d, op, ty, pos, after, some (j, b)⟩ σ s) (hj : (ops[j]?).bind (·.dst) = some e) (hc : lk σ e = some (.im (IV.bool c))) (hd : dokD nt d = true) (t : ALK C ops nt (0 :: dn) l ⟨bnd d (.cnd (gd b c) s) σ, H, fr⟩ K) : ALK C ops nt dn (⟨d, op, ty, pos, after, some (j, b)⟩ :: l) ⟨σ, H, fr⟩ K :=
  .step (.g rfl hj hc gq_im hd h) t
theorem ALK.g2 {j e : Nat} {b c g : Bool} (h : (g && gd b c) = true → OpN C ⟨d, op, ty, pos, after, some (j, b)⟩ σ s) (hj : (ops[j]?).bind (·.dst) = some e) (hc : lk σ e = some (.cnd g (.im (IV.bool c)))) (hd : dokD nt d = true) (t : ALK C ops nt (0 :: dn) l ⟨bnd d (.cnd (g && gd b c) s) σ, H, fr⟩ K) : ALK C ops nt dn (⟨d, op, ty, pos, after, some (j, b)⟩ :: l) ⟨σ, H, fr⟩ K :=
  .step (.g rfl hj hc gq_cnd hd h) t
theorem ALK.a {ob : HObj} (h : OpA C ⟨d, op, ty, pos, after, none⟩ σ fr s ob) (hd : dokD nt d = true) (t : ALK C ops nt (1 :: dn) l ⟨bnd d s σ, (fr, ob) :: H, fr + 1⟩ K) : ALK C ops nt dn (⟨d, op, ty, pos, after, none⟩ :: l) ⟨σ, H, fr⟩ K :=
  .step (.a (.inl rfl) hd h) t
theorem ALK.e (h : OpE C ⟨d, op, ty, pos, after, none⟩ σ H fr s H' fr') (hd : dokD nt d = true) (hf : Nat.ble fr fr' = true) (t : ALK C ops nt (2 :: dn) l ⟨bnd d s σ, H', fr'⟩ K) : ALK C ops nt dn (⟨d, op, ty, pos, after, none⟩ :: l) ⟨σ, H, fr⟩ K :=
  .step (.e (.inl rfl) hd (Nat.le_of_ble_eq_true hf) h) t
theorem yes_of {o : Oper} {j e : Nat} {b c : Bool} (hg : o.guard = some (j, b)) (hj : (ops[j]?).bind (·.dst) = some e) (hc : lk σ e = some (.im (IV.bool c))) (hy : gd b c = true) : Yes ops o σ := .inr ⟨j, e, b, _, hg, hj, hc, hy ▸ gq_im⟩
theorem ALK.ny {j e : Nat} {b c : Bool} (h : OpN C ⟨d, op, ty, pos, after, some (j, b)⟩ σ s) (hj : (ops[j]?).bind (·.dst) = some e) (hc : lk σ e = some (.im (IV.bool c))) (hy : gd b c = true) (hd : dokD nt d = true) (t : ALK C ops nt (0 :: dn) l ⟨bnd d s σ, H, fr⟩ K) : ALK C ops nt dn (⟨d, op, ty, pos, after, some (j, b)⟩ :: l) ⟨σ, H, fr⟩ K :=
  .step (.n (yes_of rfl hj hc hy) hd h) t
theorem ALK.ay {ob : HObj} {j e : Nat} {b c : Bool} (h : OpA C ⟨d, op, ty, pos, after, some (j, b)⟩ σ fr s ob) (hj : (ops[j]?).bind (·.dst) = some e) (hc : lk σ e = some (.im (IV.bool c))) (hy : gd b c = true) (hd : dokD nt d = true) (t : ALK C ops nt (1 :: dn) l ⟨bnd d s σ, (fr, ob) :: H, fr + 1⟩ K) : ALK C ops nt dn (⟨d, op, ty, pos, after, some (j, b)⟩ :: l) ⟨σ, H, fr⟩ K :=
  .step (.a (yes_of rfl hj hc hy) hd h) t
theorem ALK.ey {j e : Nat} {b c : Bool} (h : OpE C ⟨d, op, ty, pos, after, some (j, b)⟩ σ H fr s H' fr') (hj : (ops[j]?).bind (·.dst) = some e) (hc : lk σ e = some (.im (IV.bool c))) (hy : gd b c = true) (hd : dokD nt d = true) (hf : Nat.ble fr fr' = true) (t : ALK C ops nt (2 :: dn) l ⟨bnd d s σ, H', fr'⟩ K) : ALK C ops nt dn (⟨d, op, ty, pos, after, some (j, b)⟩ :: l) ⟨σ, H, fr⟩ K :=
  .step (.e (yes_of rfl hj hc hy) hd (Nat.le_of_ble_eq_true hf) h) t
theorem ALK.r (h : OpR C ⟨d, op, ty, pos, after, none⟩ σ H s) (hd : dokD nt d = true) (t : ALK C ops nt (3 :: dn) l ⟨bnd d s σ, H, fr⟩ K) : ALK C ops nt dn (⟨d, op, ty, pos, after, none⟩ :: l) ⟨σ, H, fr⟩ K :=
  .step (.r (.inl rfl) hd h) t
theorem ALK.ry {j e : Nat} {b c : Bool} (h : OpR C ⟨d, op, ty, pos, after, some (j, b)⟩ σ H s) (hj : (ops[j]?).bind (·.dst) = some e) (hc : lk σ e = some (.im (IV.bool c))) (hy : gd b c = true) (hd : dokD nt d = true) (t : ALK C ops nt (3 :: dn) l ⟨bnd d s σ, H, fr⟩ K) : ALK C ops nt dn (⟨d, op, ty, pos, after, some (j, b)⟩ :: l) ⟨σ, H, fr⟩ K :=
  .step (.r (yes_of rfl hj hc hy) hd h) t
theorem ALK.rg {j e : Nat} {b c : Bool} (h : gd b c = true → OpR C ⟨d, op, ty, pos, after, some (j, b)⟩ σ H s) (hj : (ops[j]?).bind (·.dst) = some e) (hc : lk σ e = some (.im (IV.bool c))) (hd : dokD nt d = true) (t : ALK C ops nt (3 :: dn) l ⟨bnd d (.cnd (gd b c) s) σ, H, fr⟩ K) : ALK C ops nt dn (⟨d, op, ty, pos, after, some (j, b)⟩ :: l) ⟨σ, H, fr⟩ K :=
  .step (.rg rfl hj hc gq_im hd h) t
theorem ALK.rg2 {j e : Nat} {b c g : Bool} (h : (g && gd b c) = true → OpR C ⟨d, op, ty, pos, after, some (j, b)⟩ σ H s) (hj : (ops[j]?).bind (·.dst) = some e) (hc : lk σ e = some (.cnd g (.im (IV.bool c)))) (hd : dokD nt d = true) (t : ALK C ops nt (3 :: dn) l ⟨bnd d (.cnd (g && gd b c) s) σ, H, fr⟩ K) : ALK C ops nt dn (⟨d, op, ty, pos, after, some (j, b)⟩ :: l) ⟨σ, H, fr⟩ K :=
  .step (.rg rfl hj hc gq_cnd hd h) t
theorem ALK.nil {x : St} {K : St → Prop} (h : K x) : ALK C ops nt dn [] x (fun _ y => K y) := ⟨[], [], x, .nil, h⟩
theorem ALK.nilD {l0 : List Oper} {x : St} {K : St → Prop} (hr : regOk l0 dn.reverse = true) (h : K x) : ALK C ops nt dn [] x (fun ks y => regOk l0 ks = true ∧ K y) := ⟨[], [], x, .nil, by simpa using hr, h⟩

variable {Q : Exit → St → Prop} {x y : St} {id : Nat} {c c' : Code} {KQ : St → Prop}
theorem WP.sreg (h : ALK C l.toArray nt [] l x (fun _ y => WP C F nt c Q y)) : WP C F nt (.seq (.region id l.toArray false) c) Q x := by
  obtain ⟨ks, ss, y, h1, h2⟩ := h
  exact WP.seq (WP.region h1 h2)
theorem WP.sdraw (h : ALK C l.toArray nt [] l x (fun ks y => regOk l ks = true ∧ WP C F nt c Q y)) : WP C F nt (.seq (.region id l.toArray true) c) Q x := by
  obtain ⟨ks, ss, y, h1, h2⟩ := h
  exact WP.seq (WP.draw h1 (by simpa using h2.1) h2.2)
/- the last of a body -/
theorem WP.lreg (h : ALK C l.toArray nt [] l x (fun _ y => Q .normal y)) : WP C F nt (.region id l.toArray false) Q x := by
  obtain ⟨ks, ss, y, h1, h2⟩ := h
  exact WP.region h1 h2
theorem WP.ldraw (h : ALK C l.toArray nt [] l x (fun ks y => regOk l ks = true ∧ Q .normal y)) : WP C F nt (.region id l.toArray true) Q x := by
  obtain ⟨ks, ss, y, h1, h2⟩ := h
  exact WP.draw h1 (by simpa using h2.1) h2.2
theorem WP.scond {t : Nat} {c d e : Code} {b : Bool} (hb : lk x.σ t = some (.im (IV.bool b))) (h1 : b = true → WP C F nt c (XThen (WP C F nt e Q) Q) x) (h2 : b = false → WP C F nt d (XThen (WP C F nt e Q) Q) x) : WP C F nt (.seq (.cond (.tmp t) c d) e) Q x :=
  WP.seq (WP.cond hb h1 h2)
theorem WP.sblock {id : Nat} {c e : Code} (h : WP C F nt c (XBlock id (XThen (WP C F nt e Q) Q)) x) : WP C F nt (.seq (.block id c) e) Q x := WP.seq (WP.block h)
end
end Go.Proofs.Ytjgmbgfcffnanac
