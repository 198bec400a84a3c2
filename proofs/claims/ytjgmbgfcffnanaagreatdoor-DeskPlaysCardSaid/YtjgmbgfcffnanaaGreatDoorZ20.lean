/- Operations: division, bytes compared and taken away, a string cut at both ends. No condition. The reference: numerals and words. -/
import Derived.Test.YtjgmbgfcffnanaaGreatDoorZ13
import Derived.Test.YtjgmbgfcffnanaaGreatDoorZ19
set_option maxRecDepth 100000
set_option maxHeartbeats 4000000
namespace Go.Proofs.YtjgmbgfcffnanaaGreatDoor
open Go.RowKit
section
variable {C : Cfg} {σ : Env} {d : Option Tmp} {ty : TypeId} {pos : String} {after : Array Edge} {gu : Option (Nat × Bool)}
theorem opn_quoT {t t' : TypeId} {x y : Go.Operand} {a b c : Int} (hx : Ev σ x (.im (IV.int a))) (hy : Ev σ y (.im (IV.int b))) (h1 : b ≠ 0) (hc : wrap64 (a.tdiv b) = c) : OpN C ⟨d,.binOp .quo t x y t',ty,pos,after,gu⟩ σ (.im (IV.int c)) := OpN.pure fun ρ μ ac w hl ha => by
 have h2 := hx.val hl (by simp [Op.operands])
 have h3 := hy.val hl (by simp [Op.operands])
 refine ⟨_,?_,oi.2 rfl⟩
 simp [execOp,h2,h3,ox,binOp,Op.intDiv,h1,wrap_i64,hc]
theorem opn_remZ {t t' : TypeId} {x y : Go.Operand} {a b : Int} (hx : Ev σ x (.im (IV.int a))) (hy : Ev σ y (.im (IV.int b))) (h1 : b ≠ 0) : OpN C ⟨d,.binOp .rem t x y t',ty,pos,after,gu⟩ σ (.im (IV.int (a.tmod b))) := OpN.pure fun ρ μ ac w hl ha => by
 have h2 := hx.val hl (by simp [Op.operands])
 have h3 := hy.val hl (by simp [Op.operands])
 refine ⟨_,?_,oi.2 rfl⟩
 simp [execOp,h2,h3,ox,binOp,Op.intDiv,h1]
def cmpU (op : BinOp) (a b : UInt8) : Option Bool := match op with
 | .eql => some (a == b)
 | .neq => some (!(a == b))
 | _ => none
theorem u8_eq (a b : UInt8) : (decide ((a.toNat : Int) = (b.toNat : Int))) = (a == b) := by
 by_cases h : a = b
 ·subst h;simp
 ·have : (a.toNat : Int) ≠ (b.toNat : Int) := fun e => h (UInt8.toNat_inj.1 (by omega))
  simp [h,this]
theorem qE {op : BinOp} {t t' : TypeId} {x y : Go.Operand} {a b : UInt8} {c : Bool} {k : Int} (hx : Ev σ x (.im (IV.val (.int .u8 (a.toNat : Int))))) (hy : Ev σ y (.im (IV.val (.int .u8 k)))) (hk : k = (b.toNat : Int)) (hc : cmpU op a b = some c) : OpN C ⟨d,.binOp op t x y t',ty,pos,after,gu⟩ σ (.im (IV.bool c)) := OpN.pure fun ρ μ ac w hl ha => by
 have h1 := hx.val hl (by simp [Op.operands])
 have h2 := hy.val hl (by simp [Op.operands])
 subst hk
 refine ⟨_,?_,oi.2 rfl⟩
 cases op with
 | eql =>
  have hc : some (a == b) = some c := hc
  injection hc with hc
  subst hc
  simp only [execOp,h1,h2,Sem.run_bind,ox,binOp,ne_eq,not_true_eq_false,if_false,Op.intCmp,Result.andThen_ok,Sem.run_pure,← u8_eq]
  simp
  rfl
 | neq =>
  have hc : some (!(a == b)) = some c := hc
  injection hc with hc
  subst hc
  simp only [execOp,h1,h2,Sem.run_bind,ox,binOp,ne_eq,not_true_eq_false,if_false,Op.intCmp,Result.andThen_ok,Sem.run_pure,← u8_eq]
  simp
  rfl
 | _ => cases hc
theorem opn_subU {t t' : TypeId} {x y : Go.Operand} {a : UInt8} {b k : Int} (hx : Ev σ x (.im (IV.val (.int .u8 (a.toNat : Int))))) (hy : Ev σ y (.im (IV.val (.int .u8 k)))) (hk : k = b) : OpN C ⟨d,.binOp .sub t x y t',ty,pos,after,gu⟩ σ (.im (IV.val (.int .u8 ((byteOf ((a.toNat : Int) - b)).toNat : Int)))) := OpN.pure fun ρ μ ac w hl ha => by
 have h1 := hx.val hl (by simp [Op.operands])
 have h2 := hy.val hl (by simp [Op.operands])
 subst hk
 refine ⟨_,?_,oi.2 rfl⟩
 simp [execOp,h1,h2,ox,binOp,Op.intArith,wrap_u8]
theorem j4 (l : List UInt8) (i j : Nat) (_ : i ≤ j) (_ : j ≤ l.length) : (bS l).extract i j = bS ((l.take j).drop i) := by
 apply ByteArray.ext
 rw [ByteArray.data_extract]
 apply Array.ext'
 simp [bS,List.drop_take]
theorem qB {t : TypeId} {x y z : Go.Operand} {l : List UInt8} {i j : Nat} (hk : undS C t = true) (hx : Ev σ x (.im (IV.str l))) (hlo : Ev σ y (.im (IV.int (i : Int)))) (hhi : Ev σ z (.im (IV.int (j : Int)))) (h0 : i ≤ j) (h1 : j ≤ l.length) : OpN C ⟨d,.slice t x (some y) (some z) none,ty,pos,after,gu⟩ σ (.im (IV.str ((l.take j).drop i))) := OpN.pure fun ρ μ a w hl ha => by
 have e1 := hx.val hl (by simp [Op.operands])
 have e2 := hlo.val hl (by simp [Op.operands])
 have e3 := hhi.val hl (by simp [Op.operands])
 refine ⟨_,?_,oi.2 rfl⟩
 have e4 : j ≤ (bS l).size := by rw [yL];exact h1
 simp [execOp,Instr.sliceAt,Instr.slice,Instr.sliceBounds,Instr.sliceBound,asIntOf,e1,e2,e3,run_underlying (qt hk),e4,h0,j4 l i j h0 h1]
theorem uv {c x y : Go.Operand} {s : SV} (hc : Ev σ c (.im (IV.bool true))) (hx : Ev σ x s) : OpN C ⟨d,.pick c x y,ty,pos,after,gu⟩ σ s := OpN.pure fun ρ μ a w hl ha => by
 have h1 := hc.val hl (by simp [Op.operands])
 have h3 := hx.at hl (by simp [Op.operands])
 exact ⟨a.eval x,by simp [execOp,h1,asBool],h3⟩
end
section
variable {C : Cfg} {nt : Nat} {ops : Array Oper} {dn : List Nat} {l : List Oper} {σ : Env} {H : List Ent} {fr : Nat} {d : Option Tmp} {op : Op} {ty : TypeId} {pos : String} {after : Array Edge} {K : List Nat → St → Prop}
theorem ALK.no {j e : Nat} {b c : Bool} (hj : (ops[j]?).bind (·.dst) = some e) (hc : lk σ e = some (.im (IV.bool c))) (hn : gd b c = false) (hd : dokD nt d = true) (t : ALK C ops nt (0 :: dn) l ⟨bnd d (.cnd false (.im (IV.bool true))) σ,H,fr⟩ K) : ALK C ops nt dn (⟨d,op,ty,pos,after,some (j,b)⟩ :: l) ⟨σ,H,fr⟩ K :=
 ALK.g (s := .im (IV.bool true)) (fun hb => absurd hb (by rw [hn];simp)) hj hc hd (by rw [hn];exact t)
theorem ALK.no2 {j e : Nat} {b c : Bool} (hj : (ops[j]?).bind (·.dst) = some e) (hc : lk σ e = some (.cnd false (.im (IV.bool c)))) (hd : dokD nt d = true) (t : ALK C ops nt (0 :: dn) l ⟨bnd d (.cnd false (.im (IV.bool true))) σ,H,fr⟩ K) : ALK C ops nt dn (⟨d,op,ty,pos,after,some (j,b)⟩ :: l) ⟨σ,H,fr⟩ K :=
 ALK.g2 (s := .im (IV.bool true)) (fun hb => absurd hb (by simp)) hj hc hd t
end
section
variable {C : Cfg} {F : Fx} {nt : Nat} {ops : Array Oper} {l : List Oper} {Q : Exit → St → Prop} {σ : Env} {H : List Ent} {fr : Nat} {d : Option Tmp} {op : Op} {ty : TypeId} {pos : String} {after : Array Edge} {s : SV}
theorem LX.g {j e : Nat} {b c : Bool} (h : gd b c = true → OpN C ⟨d,op,ty,pos,after,some (j,b)⟩ σ s) (hj : (ops[j]?).bind (·.dst) = some e) (hc : lk σ e = some (.im (IV.bool c))) (hd : dokD nt d = true) (t : LX C F nt ops l Q ⟨bnd d (.cnd (gd b c) s) σ,H,fr⟩) : LX C F nt ops (⟨d,op,ty,pos,after,some (j,b)⟩ :: l) Q ⟨σ,H,fr⟩ := .step (.g rfl hj hc qy hd h) t
end
theorem qa (n : Int) (h0 : 0 ≤ n) (h1 : n ≤ 9223372036854775807) : Fn CC 62 [IV.int n] (IV.str (digs n)) := by
 obtain ⟨k,hk⟩ : ∃ k,n.toNat = k := ⟨_,rfl⟩
 induction k using Nat.strongRecOn generalizing n with
 | _ k ih =>
 have e1 : n.tdiv 10 = n / 10 := Int.tdiv_eq_ediv_of_nonneg (by omega)
 have e2 : n.tmod 10 = n % 10 := Int.tmod_eq_emod_of_nonneg (by omega)
 refine Fn.of_wp _ Tryz.func62 rfl (by kernel_rfl) Tryz.ntmps62 rfl ?_
 intro F hD hG
 (refine zR ?_;refine sA ?_;refine zN ?_)
 (refine zR ?_;(iterate 3 refine sA ?_);(iterate 2 refine gA ?_);refine sA ?_;refine zN ?_)
 refine zC (fun h => ?_) (fun h => ?_)
 ·exfalso;simp at h;omega
 refine zS ?_
 (refine zR ?_;(iterate 2 refine sA ?_);refine zN ?_)
 refine zC (fun h => ?_) (fun h => ?_)
 ·exfalso;simp at h;omega
 refine zS ?_
 (refine zR ?_;(iterate 2 refine sA ?_);refine zN ?_)
 refine zC (fun h => ?_) (fun h => ?_)
 ·have hs : n < 10 := by simpa using h
  have hr := digs_small h0 hs
  rw [hr]
  (refine zR ?_;(iterate 2 refine sA ?_);(first | refine ALK.n (y1 (by kernel_rfl) (by kernel_rfl) (by kernel_rfl) (eB rfl)) rfl ?_ | refine ALK.n (oZ (by kernel_rfl) (by kernel_rfl) (by kernel_rfl) (eB rfl)) rfl ?_);refine ALK.n (o6 rfl rfl rfl rfl rfl rfl (Pc rfl (eB rfl) Cs.a rfl rfl Parts.nil) rfl) rfl ?_;refine ALK.n (opn_toStr (l := [byteOf (48 + n)]) rfl rfl (Ev.of (eB rfl) (ImOf.im (ILe.view rfl)))) rfl ?_;refine sA ?_;refine zN ?_)
  exact zT Tryz.results62
 ·refine zS ?_
  have hs : 10 ≤ n := by simp at h;omega
  have hr := digs_big hs
  have i1 := ih (n.tdiv 10).toNat (by omega) (n.tdiv 10) (by omega) (by omega) rfl
  have i2 := ih (n.tmod 10).toNat (by omega) (n.tmod 10) (by omega) (by omega) rfl
  have l1 := ua (n := n.tdiv 10) (by unfold I64;omega)
  have l2 := ua (n := n.tmod 10) (by unfold I64;omega)
  rw [hr]
  (refine zR ?_;refine sA ?_;refine ALK.n (opn_quoT (c := n.tdiv 10) (eB rfl) (eB rfl) (by decide) (by unfold wrap64;omega)) rfl ?_;refine ALK.n (o3 i1 (Evs.cons Ev.a Evs.nil)) rfl ?_;refine sA ?_;refine ALK.n (opn_remZ (eB rfl) (eB rfl) (by decide)) rfl ?_;refine ALK.n (o3 i2 (Evs.cons Ev.a Evs.nil)) rfl ?_;refine ALK.n (ol (eB rfl) (eB rfl) (by omega)) rfl ?_;refine sA ?_;refine zN ?_)
  exact zT Tryz.results62
theorem ref_Digits_neg (n : Int) (h0 : n < 0) (h1 : -9223372036854775808 ≤ n) : Fn CC 62 [IV.int n] (IV.str (digs n)) := by
 obtain ⟨k,hk⟩ : ∃ k,n.natAbs = k := ⟨_,rfl⟩
 induction k using Nat.strongRecOn generalizing n with
 | _ k ih =>
 refine Fn.of_wp _ Tryz.func62 rfl (by kernel_rfl) Tryz.ntmps62 rfl ?_
 intro F hD hG
 (refine zR ?_;refine sA ?_;refine zN ?_)
 (refine zR ?_;(iterate 3 refine sA ?_);(iterate 2 refine gA ?_);refine sA ?_;refine zN ?_)
 refine zC (fun h => ?_) (fun h => ?_)
 ·have hs : -10 < n := by simp at h;omega
  have hr := digs_neg h0
  have l1 := ua (n := -n) (by unfold I64;omega)
  rw [hr]
  (refine zR ?_;refine sA ?_;refine ALK.n (opn_neg (eB rfl) (by omega) (by omega)) rfl ?_;refine ALK.n (o3 (qa (-n) (by omega) (by omega)) (Evs.cons Ev.a Evs.nil)) rfl ?_;refine ALK.n (ol (a := [45]) (eB rfl) (eB rfl) (by simp;omega)) rfl ?_;refine sA ?_;refine zN ?_)
  exact zT Tryz.results62
 ·refine zS ?_
  have hs : n ≤ -10 := by simp at h;omega
  have hr := digs_negBig hs
  have e1 : n.tdiv 10 = -((-n).tdiv 10) := by rw [Int.neg_tdiv];omega
  have e2 : n.tmod 10 = -((-n).tmod 10) := by rw [Int.neg_tmod];omega
  have e3 : (-n).tdiv 10 = (-n) / 10 := Int.tdiv_eq_ediv_of_nonneg (by omega)
  have e4 : (-n).tmod 10 = (-n) % 10 := Int.tmod_eq_emod_of_nonneg (by omega)
  have i1 := ih (n.tdiv 10).natAbs (by omega) (n.tdiv 10) (by omega) (by omega) rfl
  have i2 := qa (-(n.tmod 10)) (by omega) (by omega)
  have l1 := ua (n := n.tdiv 10) (by unfold I64;omega)
  have l2 := ua (n := -(n.tmod 10)) (by unfold I64;omega)
  (refine zR ?_;(iterate 2 refine sA ?_);refine zN ?_)
  refine zC (fun h => ?_) (fun h => ?_)
  ·rw [hr]
   (refine zR ?_;refine sA ?_;refine ALK.n (opn_quoT (c := n.tdiv 10) (eB rfl) (eB rfl) (by decide) (by unfold wrap64;omega)) rfl ?_;refine ALK.n (o3 i1 (Evs.cons Ev.a Evs.nil)) rfl ?_;refine sA ?_;refine ALK.n (opn_remZ (eB rfl) (eB rfl) (by decide)) rfl ?_;refine ALK.n (opn_neg (eB rfl) (by omega) (by omega)) rfl ?_;refine ALK.n (o3 i2 (Evs.cons Ev.a Evs.nil)) rfl ?_;refine ALK.n (ol (eB rfl) (eB rfl) (by omega)) rfl ?_;refine sA ?_;refine zN ?_)
   exact zT Tryz.results62
  ·exfalso;simp at h;omega
theorem oL (n : Int) (h : I64 n) : Fn CC 62 [IV.int n] (IV.str (digs n)) := by
 unfold I64 at h
 by_cases h0 : n < 0
 ·exact ref_Digits_neg n h0 h.1
 ·exact qa n (by omega) h.2
def cStr (l : List UInt8) : List IV := [IV.str l]
abbrev strsV (l : List (List UInt8)) : IV := IV.view 1 cStr l
theorem jA {s : List UInt8} {i f : Nat} {b : UInt8} (hb : s[i]? = some b) (hf : f ≤ i) : (s.take (i + 1)).drop f = (s.take i).drop f ++ [b] := by
 rw [oM hb,List.drop_append_of_le_length]
 rw [List.length_take]
 have := (List.getElem?_eq_some_iff.1 hb).1
 omega
theorem drop_cons {s : List UInt8} {i : Nat} {b : UInt8} (hb : s[i]? = some b) : s.drop i = b :: s.drop (i + 1) := by
 have hlt := (List.getElem?_eq_some_iff.1 hb).1
 rw [List.drop_eq_getElem_cons hlt]
 rw [List.getElem?_eq_getElem hlt] at hb
 injection hb with hb
 rw [hb]
theorem uk (s : List UInt8) (hs : s.length ≤ 100000) : Fn CC 63 [IV.str s] (strsV (splitS s)) := by
 refine Fn.of_wp _ Tryz.func63 rfl (by kernel_rfl) Tryz.ntmps63 rfl ?_
 intro F hD hG
 (refine zR ?_;refine sA ?_;refine zN ?_)
 (refine zR ?_;refine sA ?_;refine zN ?_)
 refine WP.shift (Shift.row0 3 9 1 cStr (fun _ => rfl) rfl) ?_
 (refine zR ?_;refine sA ?_;refine zN ?_)
 (refine zR ?_;refine sA ?_;refine zN ?_)
 refine zB ?_
 refine WP.loop (fun c : Nat × Nat × List (List UInt8) => ⟨[(5,.im (IV.int c.1)),(4,.im (IV.int c.2.1)),(3,.row 0 c.2.2.length),(0,.im (IV.str s))],[(0,.row 9 1 cStr c.2.2)],1⟩) (fun c => c.1 ≤ s.length + 1 ∧ c.2.1 ≤ c.1 ∧ c.2.2.length ≤ c.1 ∧ (c.1 ≤ s.length → splitS s = c.2.2 ++ glue ((s.take c.1).drop c.2.1) (splitS (s.drop c.1))) ∧ (c.1 = s.length + 1 → splitS s = c.2.2)) (fun c => s.length + 1 - c.1) (0,0,[]) ⟨by omega,by simp,by simp,fun _ => by simp [glue_nil (splitS_ne s)],fun h => by simp at h⟩ (Shift.sub [(0,0)] rfl (SubE.cons rfl (SLe.im (ILe.int rfl)) (SubE.cons rfl (SLe.im (ILe.int rfl)) SubE.a)) (SubH.cons rfl rfl (ObLe.row rfl) SubH.nil)) ?_
 rintro ⟨i,f,out⟩ ⟨hi,hf,ho,hp,hq⟩
 simp only at hi hf ho hp hq
 (refine zR ?_;(iterate 2 refine sA ?_);refine ALK.n (oJ rfl (eB rfl)) rfl ?_;refine sA ?_;refine zN ?_)
 refine zC (fun h => ?_) (fun h => ?_)
 ·refine zS ?_
  have hle : i ≤ s.length := by simp at h;omega
  have hp := hp hle
  have hq2 := hq
  clear hq
  refine zB ?_
  rcases Nat.lt_or_ge i s.length with hlt | hge
  ·obtain ⟨b,hb⟩ := oc hlt
   have hb' : s[((i : Nat) : Int).toNat]? = some b := by simpa using hb
   have hni : ¬ ((i : Int) = (s.length : Int)) := by omega
   (refine zR ?_;(iterate 2 refine sA ?_);refine ALK.n (oJ rfl (eB rfl)) rfl ?_;(iterate 2 refine sA ?_);refine ALK.ny (o4 (eB rfl)) rfl rfl (by first | rfl | assumption | (simp [gd];done) | (simp_all [gd];done)) rfl ?_;refine ALK.ny (o4 (eB rfl)) rfl rfl (by first | rfl | assumption | (simp [gd];done) | (simp_all [gd];done)) rfl ?_;refine ALK.ny (yd rfl (eB rfl) (eB rfl) (by omega) (by assumption)) rfl rfl (by first | rfl | assumption | (simp [gd];done) | (simp_all [gd];done)) rfl ?_;refine ALK.ny (qE (b := 32) (eB rfl) (eB rfl) rfl rfl) rfl rfl (by first | rfl | assumption | (simp [gd];done) | (simp_all [gd];done)) rfl ?_;refine ALK.n (opn_pick_orP (eB rfl) (eB rfl) (eB rfl)) rfl ?_;refine zN ?_)
   rw [drop_cons hb] at hp
   refine zC (fun h => ?_) (fun h => ?_)
   ·have h32 : b = 32 := by simpa [hni] using h
    subst h32
    rw [glue_space] at hp
    (refine zR ?_;(iterate 4 refine sA ?_);refine ALK.n (qB (i := f) (j := i) rfl (eB rfl) (eB rfl) (eB rfl) (by omega) (by omega)) rfl ?_;refine ALK.n (o6 rfl rfl rfl rfl rfl rfl (Pc rfl (eB rfl) Cs.a rfl rfl Parts.nil) rfl) rfl ?_;refine ALK.e (o8 (b := 16) [(s.take i).drop f] rfl rfl rfl rfl rfl (eB rfl) (eB rfl) rfl rfl (by simp;omega) rfl) rfl rfl ?_;refine sA ?_;refine zN ?_)
    (refine zR ?_;(iterate 3 refine sA ?_);refine zN ?_)
    (refine zR ?_;(iterate 3 refine sA ?_);refine zN ?_)
    show ∃ _,_ ∧ _ ∧ _
    exact ⟨(i + 1,i + 1,out ++ [(s.take i).drop f]),⟨by simp only;omega,by simp,by simp only [List.length_append,List.length_cons,List.length_nil];omega,fun _ => by rw [hp];simp [glue_nil (splitS_ne _),List.drop_take],fun h => by simp only at h;omega⟩,by simp only;omega,Shift.sub [(0,1)] rfl (SubE.cons rfl (SLe.im (ILe.int (by simp only [];omega))) (SubE.cons rfl (SLe.im (ILe.int (by simp only [];omega))) SubE.a)) (SubH.cons rfl rfl (ObLe.row rfl) SubH.nil)⟩
   ·refine zS ?_
    have h32 : b ≠ 32 := by simpa [hni] using h
    rw [glue_other h32,← jA hb hf] at hp
    (refine zR ?_;(iterate 3 refine sA ?_);refine zN ?_)
    show ∃ _,_ ∧ _ ∧ _
    exact ⟨(i + 1,f,out),⟨by simp only;omega,by simp only;omega,by simp only;omega,fun _ => hp,fun h => by simp only at h;omega⟩,by simp only;omega,Shift.sub [(0,0)] rfl (SubE.cons rfl (SLe.im (ILe.int (by simp only [];omega))) SubE.a) (SubH.cons rfl rfl (ObLe.row rfl) SubH.nil)⟩
  ·obtain rfl : i = s.length := by omega
   (refine zR ?_;(iterate 2 refine sA ?_);refine ALK.n (oJ rfl (eB rfl)) rfl ?_;(iterate 2 refine sA ?_);refine ALK.g (s := .im IV.any) (fun hb => absurd hb (by first | (simp [gd];done) | (simp [gd];omega) | (simp_all [gd];done))) rfl rfl rfl ?_;refine ALK.g (s := .im IV.any) (fun hb => absurd hb (by first | (simp [gd];done) | (simp [gd];omega) | (simp_all [gd];done))) rfl rfl rfl ?_;refine ALK.g (s := .im IV.any) (fun hb => absurd hb (by first | (simp [gd];done) | (simp [gd];omega) | (simp_all [gd];done))) rfl rfl rfl ?_;refine ALK.g (s := .im (IV.bool false)) (fun hb => absurd hb (by simp [gd])) rfl rfl rfl ?_;refine ALK.n (ue (eB rfl) rfl rfl (fun hb2 => by first | (rw [hb2];rfl) | (rw [hb,hb2];rfl) | simp_all [gd])) rfl ?_;refine zN ?_)
   refine zC (fun h => ?_) (fun h => ?_)
   ·(refine zR ?_;(iterate 4 refine sA ?_);refine ALK.n (qB (i := f) (j := s.length) rfl (eB rfl) (eB rfl) (eB rfl) (by omega) (by omega)) rfl ?_;refine ALK.n (o6 rfl rfl rfl rfl rfl rfl (Pc rfl (eB rfl) Cs.a rfl rfl Parts.nil) rfl) rfl ?_;refine ALK.e (o8 (b := 16) [(s.take s.length).drop f] rfl rfl rfl rfl rfl (eB rfl) (eB rfl) rfl rfl (by simp;omega) rfl) rfl rfl ?_;refine sA ?_;refine zN ?_)
    (refine zR ?_;(iterate 3 refine sA ?_);refine zN ?_)
    (refine zR ?_;(iterate 3 refine sA ?_);refine zN ?_)
    show ∃ _,_ ∧ _ ∧ _
    exact ⟨(s.length + 1,s.length + 1,out ++ [(s.take s.length).drop f]),⟨by simp,by simp,by simp only [List.length_append,List.length_cons,List.length_nil];omega,fun h => by simp only at h;omega,fun _ => by rw [hp,List.drop_length];simp [splitS,glue]⟩,by simp only;omega,Shift.sub [(0,1)] rfl (SubE.cons rfl (SLe.im (ILe.int (by simp only [];omega))) (SubE.cons rfl (SLe.im (ILe.int (by simp only [];omega))) SubE.a)) (SubH.cons rfl rfl (ObLe.row rfl) SubH.nil)⟩
   ·simp at h
 ·refine zE ?_
  have hie : i = s.length + 1 := by simp at h;omega
  subst hie
  rw [hq rfl]
  (refine zR ?_;(iterate 2 refine sA ?_);refine zN ?_)
  refine WP.shift (Shift.frzRow 2 rfl rfl) ?_
  exact zT Tryz.results63
theorem pow10_succ (i : Nat) : (29 * 10 ^ (i + 1) : Int) = 10 * (29 * 10 ^ i) := by rw [Int.pow_succ];omega
theorem pow10_le {i : Nat} (h : i ≤ 7) : (29 * 10 ^ i : Int) ≤ 290000000 := by
 have : i = 0 ∨ i = 1 ∨ i = 2 ∨ i = 3 ∨ i = 4 ∨ i = 5 ∨ i = 6 ∨ i = 7 := by omega
 rcases this with rfl | rfl | rfl | rfl | rfl | rfl | rfl | rfl <;> decide
theorem vw (b : UInt8) : 0 ≤ dval b ∧ dval b ≤ 255 := by
 unfold dval
 rw [uS];omega
theorem vA (l : List UInt8) : 0 ≤ l.foldl numF 0 ∧ l.foldl numF 0 + 29 ≤ 29 * 10 ^ l.length := by
 generalize hn : l.length = n
 induction n generalizing l with
 | zero =>
  obtain rfl := List.eq_nil_of_length_eq_zero hn
  simp
 | succ n ih =>
  rcases List.eq_nil_or_concat l with rfl | ⟨l',b,rfl⟩
  ·simp at hn
  ·rw [List.concat_eq_append] at hn ⊢
   obtain ⟨h1,h2⟩ := ih l' (by simpa using hn)
   rw [List.foldl_append,pow10_succ]
   show 0 ≤ numF _ b ∧ numF _ b + 29 ≤ _
   have h3 := vw b
   generalize (29 * 10 ^ n : Int) = g at h2
   generalize l'.foldl numF 0 = t at h1 h2
   unfold numF
   split <;> omega
theorem numF_snoc {s : List UInt8} {i : Nat} {b : UInt8} (hb : s[i]? = some b) : (s.take (i + 1)).foldl numF 0 = numF ((s.take i).foldl numF 0) b := by
 rw [oM hb,List.foldl_append];rfl
theorem numS_step {s : List UInt8} {i : Nat} {b : UInt8} (h45 : b ≠ 45) (hb : s[i]? = some b) (r1 : 0 ≤ (s.take i).foldl numF 0) (r2 : (s.take i).foldl numF 0 + 29 ≤ 29 * 10 ^ (s.take i).length) (r3 : (29 * 10 ^ (s.take i).length : Int) ≤ 290000000) : 10 * (s.take i).foldl numF 0 + dval b = (s.take (i + 1)).foldl numF 0 := by
 obtain ⟨r1,r2,r3⟩ : _ ∧ _ ∧ _ := ⟨r1,r2,r3⟩
 rw [numF_snoc hb]
 have h3 := vw b
 generalize (29 * 10 ^ (s.take i).length : Int) = g at r2 r3
 generalize (s.take i).foldl numF 0 = t at r1 r2
 unfold numF
 rw [if_neg h45]
theorem opn_leI {C : Cfg} {σ : Env} {o : Oper} {a b : Int} (h : OpN C o σ (.im (IV.int a))) (e : a = b) : OpN C o σ (.im (IV.int b)) := e ▸ h
theorem uy (s : List UInt8) : Fn CC 64 [IV.str s] (IV.tup [IV.int (numRn s),IV.bool (numRb s)]) := by
 refine Fn.of_wp _ Tryz.func64 rfl (by kernel_rfl) Tryz.ntmps64 rfl ?_
 intro F hD hG
 (refine zR ?_;(iterate 2 refine sA ?_);refine zN ?_)
 (refine zR ?_;refine sA ?_;refine ALK.n (oJ rfl (eB rfl)) rfl ?_;refine ALK.n (o3 (uZ _ _ _) (Evs.cons Ev.a (Evs.cons Ev.a (Evs.cons Ev.a Evs.nil)))) rfl ?_;refine sA ?_;refine zN ?_)
 refine zC (fun h => ?_) (fun h => ?_)
 ·have hl : s.length < 1 ∨ 7 < s.length := by simp at h;omega
  have e1 : numRn s = 0 := by unfold numRn;rw [if_pos hl]
  have e2 : numRb s = false := by unfold numRb;rw [if_pos hl]
  rw [e1,e2]
  (refine zR ?_;(iterate 2 refine sA ?_);refine zN ?_)
  exact zT Tryz.results64
 refine zS ?_
 have hl : ¬ (s.length < 1 ∨ 7 < s.length) := by simp at h;omega
 clear h
 (refine zR ?_;refine sA ?_;refine zN ?_)
 (refine zR ?_;refine sA ?_;refine zN ?_)
 refine zB ?_
 refine WP.loop (fun i : Nat => ⟨[(5,.im (IV.int i)),(4,.im (IV.int ((s.take i).foldl numF 0))),(0,.im (IV.str s))],[],0⟩) (fun i => i ≤ s.length) (fun i => s.length - i) 0 (Nat.zero_le _) (Shift.sub [] rfl SubE.a SubH.nil) ?_
 rintro i hi
 (refine zR ?_;(iterate 2 refine sA ?_);refine ALK.n (oJ rfl (eB rfl)) rfl ?_;refine sA ?_;refine zN ?_)
 refine zC (fun h => ?_) (fun h => ?_)
 ·refine zS ?_
  have hlt : i < s.length := by simpa using h
  obtain ⟨b,hb⟩ := oc hlt
  have hb' : s[((i : Nat) : Int).toNat]? = some b := by simpa using hb
  obtain ⟨r1,r2⟩ := vA (s.take i)
  have r3 := pow10_le (i := (s.take i).length) (by rw [List.length_take];omega)
  have r4 := vw b
  refine zB ?_
  (refine zR ?_;(iterate 2 refine sA ?_);refine ALK.n (yd rfl (eB rfl) (eB rfl) (by omega) (by assumption)) rfl ?_;refine ALK.n (qE (b := 45) (eB rfl) (eB rfl) rfl rfl) rfl ?_;refine zN ?_)
  refine zC (fun h => ?_) (fun h => ?_)
  ·have h45 : b ≠ 45 := by simpa using h
   (refine zR ?_;(iterate 4 refine sA ?_);refine ALK.n (yd rfl (eB rfl) (eB rfl) (by omega) (by assumption)) rfl ?_;refine ALK.n (opn_subU (b := 48) (eB rfl) (eB rfl) rfl) rfl ?_;refine ALK.n (opn_leI (b := dval b) (oZ (by kernel_rfl) (by kernel_rfl) (by kernel_rfl) (eB rfl)) rfl) rfl ?_;(iterate 2 refine sA ?_);refine zN ?_)
   (refine zR ?_;(iterate 3 refine sA ?_);refine zN ?_)
   show ∃ _,_ ∧ _ ∧ _
   exact ⟨i + 1,by omega,by omega,Shift.sub [] rfl (SubE.cons rfl (SLe.im (ILe.int rfl)) (SubE.cons rfl (SLe.im (ILe.int (numS_step h45 hb r1 r2 r3))) SubE.a)) SubH.nil⟩
  ·have h45 : b = 45 := by simpa using h
   refine zS ?_
   (refine zR ?_;(iterate 3 refine sA ?_);refine zN ?_)
   show ∃ _,_ ∧ _ ∧ _
   exact ⟨i + 1,by omega,by omega,Shift.sub [] rfl (SubE.cons rfl (SLe.im (ILe.int rfl)) (SubE.cons rfl (SLe.im (ILe.int (by rw [numF_snoc hb];unfold numF;rw [if_pos h45]))) SubE.a)) SubH.nil⟩
 ·refine zE ?_
  have hie : i = s.length := by simp at h;omega
  subst hie
  rw [List.take_length]
  obtain ⟨r1,r2⟩ := vA s
  have r3 := pow10_le (i := s.length) (by omega)
  obtain ⟨c,hc⟩ := oc (xs := s) (k := 0) (by omega)
  have hc' : s[((0 : Int)).toNat]? = some c := hc
  have hh : s.head? = some c := by rw [List.head?_eq_getElem?];exact hc
  (refine zR ?_;refine sA ?_;refine ALK.n (yd rfl (eB rfl) (eB rfl) (by omega) (by assumption)) rfl ?_;refine ALK.n (qE (b := 45) (eB rfl) (eB rfl) rfl rfl) rfl ?_;refine zN ?_)
  ((repeat apply WP.seq);refine WP.qshift (⟨[(4,.im (IV.int (numRn s))),(0,.im (IV.str s))],[],0⟩) (WP.cond rfl (fun h => ?_) (fun h => ?_)) ?_)
  ·have h45 : c = 45 := by simpa using h
   (refine zR ?_;refine sA ?_;refine ALK.n (opn_neg (eB rfl) (by omega) (by omega)) rfl ?_;refine sA ?_;refine zN ?_)
   show Shift _ _ _ _
   exact Shift.sub [] rfl (SubE.cons rfl (SLe.im (ILe.int (by unfold numRn;rw [if_neg hl,hh,if_pos (by rw [h45])]))) SubE.a) SubH.nil
  ·have h45 : c ≠ 45 := by simpa using h
   refine WP.skip ?_;show Shift _ _ _ _
   exact Shift.sub [] rfl (SubE.cons rfl (SLe.im (ILe.int (by unfold numRn;rw [if_neg hl,hh,if_neg (by simpa using h45)]))) SubE.a) SubH.nil
  have hn : I64 (numRn s) := by
   unfold numRn I64
   rw [if_neg hl]
   split <;> omega
  have hb : numRb s = ((digs (numRn s) == s) && (decide (numRn s ≥ -999999) && decide (numRn s ≤ 999999))) := by
   unfold numRb
   rw [if_neg hl]
   congr 1
   by_cases e : digs (numRn s) = s <;> simp [e]
  (refine zR ?_;(iterate 2 refine sA ?_);refine ALK.n (o3 (oL _ hn) (Evs.cons Ev.a Evs.nil)) rfl ?_;refine sA ?_;refine ALK.n (oa (eB rfl) (eB rfl) rfl) rfl ?_;refine sA ?_;refine gA ?_;refine ALK.g (fun hb => o3 (uZ _ _ _) (Evs.cons Ev.a (Evs.cons Ev.a (Evs.cons Ev.a Evs.nil)))) rfl rfl rfl ?_;(iterate 3 refine sA ?_);refine zN ?_)
  rw [hb]
  exact zT Tryz.results64
end Go.Proofs.YtjgmbgfcffnanaaGreatDoor
