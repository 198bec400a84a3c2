/- The logic's rules in the form in which a walk applies them. Over any program. No condition. -/
import Derived.Laws.StructEq
import Derived.Test.YtjgmbgfcffnanaaGreatDoorZ0
namespace Go.Proofs.YtjgmbgfcffnanaaGreatDoor
open Go.RowKit
def dokD (nt : Nat) (d : Option Tmp) : Bool := match d with
 | some d => Nat.blt d nt
 | none => true
def ALK (C : Cfg) (ops : Array Oper) (nt : Nat) (dn : List Nat) (l : List Oper) (x : St) (K : List Nat → St → Prop) : Prop := ∃ ks ss y,AL C ops nt ks l x ss y ∧ K (dn.reverse ++ ks) y
section
variable {C : Cfg} {F : Fx} {nt : Nat} {ops : Array Oper} {σ : Env} {H H' : List Ent} {fr fr' : Nat} {dn : List Nat} {l : List Oper} {s : SV} {d : Option Tmp} {op : Op} {ty : TypeId} {pos : String} {after : Array Edge} {K : List Nat → St → Prop}
theorem ALK.step {k : Nat} {o : Oper} {x y : St} (h : Step1 C ops nt k o x s y) (t : ALK C ops nt (k :: dn) l y K) : ALK C ops nt dn (o :: l) x K := by
 obtain ⟨ks,ss,z,h1,h2⟩ := t
 exact ⟨k :: ks,s :: ss,z,.cons h h1,by simpa using h2⟩
theorem ALK.n (h : OpN C ⟨d,op,ty,pos,after,none⟩ σ s) (hd : dokD nt d = true) (t : ALK C ops nt (0 :: dn) l ⟨bnd d s σ,H,fr⟩ K) : ALK C ops nt dn (⟨d,op,ty,pos,after,none⟩ :: l) ⟨σ,H,fr⟩ K :=
 .step (.n (.inl rfl) hd h) t
theorem ALK.g {j e : Nat} {b c : Bool} (h : gd b c = true → OpN C ⟨d,op,ty,pos,after,some (j,b)⟩ σ s) (hj : (ops[j]?).bind (·.dst) = some e) (hc : lk σ e = some (.im (IV.bool c))) (hd : dokD nt d = true) (t : ALK C ops nt (0 :: dn) l ⟨bnd d (.cnd (gd b c) s) σ,H,fr⟩ K) : ALK C ops nt dn (⟨d,op,ty,pos,after,some (j,b)⟩ :: l) ⟨σ,H,fr⟩ K :=
 .step (.g rfl hj hc qy hd h) t
theorem ALK.g2 {j e : Nat} {b c g : Bool} (h : (g && gd b c) = true → OpN C ⟨d,op,ty,pos,after,some (j,b)⟩ σ s) (hj : (ops[j]?).bind (·.dst) = some e) (hc : lk σ e = some (.cnd g (.im (IV.bool c)))) (hd : dokD nt d = true) (t : ALK C ops nt (0 :: dn) l ⟨bnd d (.cnd (g && gd b c) s) σ,H,fr⟩ K) : ALK C ops nt dn (⟨d,op,ty,pos,after,some (j,b)⟩ :: l) ⟨σ,H,fr⟩ K :=
 .step (.g rfl hj hc gq_cnd hd h) t
theorem ALK.a {ob : HObj} (h : OpA C ⟨d,op,ty,pos,after,none⟩ σ fr s ob) (hd : dokD nt d = true) (t : ALK C ops nt (1 :: dn) l ⟨bnd d s σ,(fr,ob) :: H,fr + 1⟩ K) : ALK C ops nt dn (⟨d,op,ty,pos,after,none⟩ :: l) ⟨σ,H,fr⟩ K :=
 .step (.a (.inl rfl) hd h) t
theorem ALK.e (h : OpE C ⟨d,op,ty,pos,after,none⟩ σ H fr s H' fr') (hd : dokD nt d = true) (hf : Nat.ble fr fr' = true) (t : ALK C ops nt (2 :: dn) l ⟨bnd d s σ,H',fr'⟩ K) : ALK C ops nt dn (⟨d,op,ty,pos,after,none⟩ :: l) ⟨σ,H,fr⟩ K :=
 .step (.e (.inl rfl) hd (Nat.le_of_ble_eq_true hf) h) t
theorem yes_of {o : Oper} {j e : Nat} {b c : Bool} (hg : o.guard = some (j,b)) (hj : (ops[j]?).bind (·.dst) = some e) (hc : lk σ e = some (.im (IV.bool c))) (hy : gd b c = true) : Yes ops o σ := .inr ⟨j,e,b,_,hg,hj,hc,hy ▸ qy⟩
theorem ALK.ny {j e : Nat} {b c : Bool} (h : OpN C ⟨d,op,ty,pos,after,some (j,b)⟩ σ s) (hj : (ops[j]?).bind (·.dst) = some e) (hc : lk σ e = some (.im (IV.bool c))) (hy : gd b c = true) (hd : dokD nt d = true) (t : ALK C ops nt (0 :: dn) l ⟨bnd d s σ,H,fr⟩ K) : ALK C ops nt dn (⟨d,op,ty,pos,after,some (j,b)⟩ :: l) ⟨σ,H,fr⟩ K :=
 .step (.n (yes_of rfl hj hc hy) hd h) t
theorem ALK.r (h : OpR C ⟨d,op,ty,pos,after,none⟩ σ H s) (hd : dokD nt d = true) (t : ALK C ops nt (3 :: dn) l ⟨bnd d s σ,H,fr⟩ K) : ALK C ops nt dn (⟨d,op,ty,pos,after,none⟩ :: l) ⟨σ,H,fr⟩ K :=
 .step (.r (.inl rfl) hd h) t
theorem ALK.rg {j e : Nat} {b c : Bool} (h : gd b c = true → OpR C ⟨d,op,ty,pos,after,some (j,b)⟩ σ H s) (hj : (ops[j]?).bind (·.dst) = some e) (hc : lk σ e = some (.im (IV.bool c))) (hd : dokD nt d = true) (t : ALK C ops nt (3 :: dn) l ⟨bnd d (.cnd (gd b c) s) σ,H,fr⟩ K) : ALK C ops nt dn (⟨d,op,ty,pos,after,some (j,b)⟩ :: l) ⟨σ,H,fr⟩ K :=
 .step (.rg rfl hj hc qy hd h) t
theorem ALK.nil {x : St} {K : St → Prop} (h : K x) : ALK C ops nt dn [] x (fun _ y => K y) := ⟨[],[],x,.nil,h⟩
theorem ALK.nilD {l0 : List Oper} {x : St} {K : St → Prop} (hr : regOk l0 dn.reverse = true) (h : K x) : ALK C ops nt dn [] x (fun ks y => regOk l0 ks = true ∧ K y) := ⟨[],[],x,.nil,by simpa using hr,h⟩
variable {Q : Exit → St → Prop} {x y : St} {id : Nat} {c c' : Code} {KQ : St → Prop}
theorem WP.lreg (h : ALK C l.toArray nt [] l x (fun _ y => Q .normal y)) : WP C F nt (.region id l.toArray false) Q x := by
 obtain ⟨ks,ss,y,h1,h2⟩ := h
 exact WP.region h1 h2
theorem WP.ldraw (h : ALK C l.toArray nt [] l x (fun ks y => regOk l ks = true ∧ Q .normal y)) : WP C F nt (.region id l.toArray true) Q x := by
 obtain ⟨ks,ss,y,h1,h2⟩ := h
 exact WP.draw h1 (by simpa using h2.1) h2.2
end
section
variable {C : Cfg} {σ : Env} {d : Option Tmp} {ty : TypeId} {pos : String} {after : Array Edge} {gu : Option (Nat × Bool)} {H : List Ent} {fr : Nat}
def undB (C : Cfg) (t : TypeId) : Bool := match C.tt t with
 | some dt => match dt.und with
  | .bool => true
  | _ => false
 | none => false
theorem undB_at {t : TypeId} (h : undB C t = true) : C.P.underlying t = some .bool := by
 unfold undB at h
 cases h1 : C.tt t with
 | none => simp [h1] at h
 | some dt =>
  simp only [h1] at h
  have ht := C.ok _ _ h1
  cases h2 : dt.und <;> simp [h2] at h
  rw [ht.1,h2]
def cmpB : BinOp → Bool → Bool → Option Bool
 | .eql,a,b => some (a == b)
 | .neq,a,b => some (a != b)
 | _,_,_ => none
theorem oB {op : BinOp} {t t' : TypeId} {x y : Operand} {a b c : Bool} (ht : undB C t = true) (hx : Ev σ x (.im (IV.bool a))) (hy : Ev σ y (.im (IV.bool b))) (hc : cmpB op a b = some c) : OpN C ⟨d,.binOp op t x y t',ty,pos,after,gu⟩ σ (.im (IV.bool c)) := OpN.pure fun ρ μ ac w hl ha => by
 have h1 := hx.val hl (by simp [Op.operands])
 have h2 := hy.val hl (by simp [Op.operands])
 have h3 := undB_at ht
 refine ⟨_,?_,oi.2 rfl⟩
 have hg : ∀ op,(eqGuard op t x y (.bool a) (.bool b)).run C.P w = .ok () w := by intro op;unfold eqGuard;cases op <;> simp
 have he : (Op.equal t (.bool a) (.bool b)).run C.P w = .ok (a == b) w := run_equalIn_bool' w 9999 t a b h3
 cases op with
 | eql =>
  simp only [cmpB,Option.some.injEq] at hc;subst hc
  simp only [execOp,h1,h2,Sem.run_bind,hg,Result.andThen_ok,binOp,he,Sem.run_pure]
 | neq =>
  simp only [cmpB,Option.some.injEq] at hc;subst hc
  simp only [execOp,h1,h2,Sem.run_bind,hg,Result.andThen_ok,binOp,he,Sem.run_pure]
  rfl
 | _ => simp [cmpB] at hc
theorem uj {t t' : TypeId} {x y : Operand} {a b : Int} (hx : Ev σ x (.im (IV.int a))) (hy : Ev σ y (.im (IV.int b))) (h0 : 0 ≤ a) (h1 : 0 < b) : OpN C ⟨d,.binOp .rem t x y t',ty,pos,after,gu⟩ σ (.im (IV.int (a % b))) := OpN.pure fun ρ μ ac w hl ha => by
 have h2 := hx.val hl (by simp [Op.operands])
 have h3 := hy.val hl (by simp [Op.operands])
 refine ⟨_,?_,oi.2 rfl⟩
 have hb : ¬ b = 0 := by omega
 have he : a.tmod b = a % b := Int.tmod_eq_emod_of_nonneg h0
 simp [execOp,h2,h3,ox,binOp,Op.intDiv,hb,he]
def Bd (σ : Env) (o : Option Operand) (dflt n : Nat) : Prop := match o with
 | none => n = dflt
 | some x => Ev σ x (.im (IV.int n))
theorem Bd.some {x : Operand} {m n : Nat} (h : Ev σ x (.im (IV.int n))) : Bd σ (some x) m n := h
theorem view_cut {α : Type} {μ : Mem} {k : Nat} {enc : α → List IV} {xs : List α} {A : Option Addr} {c lo hi : Nat} (h0 : lo ≤ hi) (h1 : hi ≤ xs.length) (hc : xs.length ≤ c) (hm : c ≤ maxLen) (h : xs = [] ∨ ∃ b o,A = some ⟨b,o,none⟩ ∧ ∀ i x,xs[i]? = some x → Cells μ b (o + i * k) (enc x)) :
 (IV.view k enc ((xs.take hi).drop lo)).p μ (.slice (if c = lo then A else A.map (·.add (lo * k))) (hi - lo) (c - lo)) := by
 have hl : ((xs.take hi).drop lo).length = hi - lo := by rw [List.length_drop,List.length_take];omega
 refine ⟨_,_,by rw [hl],by rw [hl];omega,by omega,?_⟩
 by_cases he : lo = hi
 ·exact .inl (List.eq_nil_of_length_eq_zero (by rw [hl];omega))
 ·rcases h with rfl | ⟨b,o,rfl,h⟩
  ·simp at h1;omega
  ·refine .inr ⟨b,o + lo * k,?_,fun i x hx => ?_⟩
   ·rw [if_neg (by omega)]
    by_cases h3 : lo * k = 0 <;> simp [Addr.add,h3]
   ·rw [List.getElem?_drop,List.getElem?_take] at hx
    split at hx
    ·have := h _ x hx
     rw [show o + lo * k + i * k = o + (lo + i) * k by rw [Nat.add_mul];omega];exact this
    ·cases hx
theorem opn_slice {α : Type} {t : TypeId} {x : Operand} {lo hi : Option Operand} {k : Nat} {enc : α → List IV} {xs : List α} {l h : Nat} (hk : slE C t = some k) (hx : Ev σ x (.im (IV.view k enc xs))) (hlo : Bd σ lo 0 l) (hhi : Bd σ hi xs.length h) (h0 : l ≤ h) (h1 : h ≤ xs.length) :
 OpN C ⟨d,.slice t x lo hi none,ty,pos,after,gu⟩ σ (.im (IV.view k enc ((xs.take h).drop l))) := OpN.pure fun ρ μ a w hl ha => by
 obtain ⟨A,c,e,hc,hm,hv⟩ := hx.im hl (by simp [Op.operands])
 obtain ⟨el,de,hu,hT,hsz⟩ := slE_at hk
 refine ⟨_,?_,oi.2 (view_cut h0 h1 hc hm hv)⟩
 have hlen : ∀ n : Nat,(0 : Int) ≤ (n : Int) := fun n => by omega
 cases hi with
 | none =>
  cases lo with
  | none =>
   simp only [Bd] at hlo hhi
   subst hlo hhi
   simp [execOp,Instr.sliceAt,Instr.slice,Instr.sliceBounds,e,run_underlying hu,hT.size w,hsz]
  | some y =>
   simp only [Bd] at hhi
   subst hhi
   have h2 : a.eval y = .int .i64 (l : Int) := Ev.val (hlo : Ev σ y (.im (IV.int l))) hl (by simp [Op.operands])
   have h3 : (l : Int) ≤ (xs.length : Int) := by omega
   simp [execOp,Instr.sliceAt,Instr.slice,Instr.sliceBounds,Instr.sliceBound,asIntOf,e,run_underlying hu,hT.size w,hsz,h2,h0]
 | some z =>
  have h4 : a.eval z = .int .i64 (h : Int) := Ev.val (hhi : Ev σ z (.im (IV.int h))) hl (by simp [Op.operands])
  have h5 : (h : Int) ≤ (c : Int) := by omega
  have h5' : h ≤ c := by omega
  cases lo with
  | none =>
   simp only [Bd] at hlo
   subst hlo
   simp [execOp,Instr.sliceAt,Instr.slice,Instr.sliceBounds,Instr.sliceBound,asIntOf,e,run_underlying hu,hT.size w,hsz,h4,h5']
  | some y =>
   have h2 : a.eval y = .int .i64 (l : Int) := Ev.val (hlo : Ev σ y (.im (IV.int l))) hl (by simp [Op.operands])
   simp [execOp,Instr.sliceAt,Instr.slice,Instr.sliceBounds,Instr.sliceBound,asIntOf,e,run_underlying hu,hT.size w,hsz,h2,h4,h5',h0]
theorem oj {t : TypeId} {x ix : Operand} {r n : Nat} {i : Int} (hk : slE C t = some 1) (hx : Ev σ x (.row r n)) (hi : Ev σ ix (.im (IV.int i))) (h0 : 0 ≤ i) (h1 : i < n) : OpN C ⟨d,.indexAddr t x ix,ty,pos,after,gu⟩ σ (.off r i.toNat) := by
 have := ye (d := d) (ty := ty) (pos := pos) (after := after) (gu := gu) hk hx hi h0 h1
 rwa [Nat.mul_one] at this
theorem opa_makeL {α : Type} {t et : TypeId} {x y : Operand} {de : TyInf} {n k b : Nat} {enc : α → List IV} (z : α) (hT : slT C t = some (et,de)) (hk : de.size = k) (hkk : ∀ a,(enc a).length = k) (hz : ∀ μ,IVs μ (enc z) de.zero.cells.toList) (hzs : Nat.beq de.zero.cells.size k = true) (h1 : oneB de.zero.cells.toList = true)
 (hx : Ev σ x (.im (IV.int n))) (hy : Ev σ y (.im (IV.int n))) (hbb : de.bytes = b) (hb0 : b * n ≤ 281474976710656) (hm : n ≤ 4611686018427387904) :
 OpA C ⟨d,.makeSlice t x y,ty,pos,after,gu⟩ σ fr (.row fr n) (.row et k enc (List.replicate n z)) := OpA.of rfl fun ρ μ a w hl ha hf => by
 obtain ⟨hu,hTe⟩ := jd hT
 have hb : de.bytes * n ≤ 281474976710656 := by rw [hbb];exact hb0
 have hTe0 := hTe
 obtain ⟨_,i,hi,hz0,hs,hby⟩ := hTe
 subst hk
 have h2 := hx.val hl (by simp [Op.operands])
 have h3 := hy.val hl (by simp [Op.operands])
 obtain ⟨w',hr,ho,hg⟩ := run_make_full (P := C.P) w 0 t et i de.zero de.size hu hi hz0 hs .i64 .i64 n (by rw [hby];exact hb) (by simp only [maxLen];omega) (Nat.zero_le _)
 have hrun : (execOp a.eval ⟨d,.makeSlice t x y,ty,pos,after,gu⟩).run C.P w = .ok (.value (.slice (some ⟨w.heap.size,0,none⟩) n n)) w' := by
  simp only [execOp,h2,h3,Sem.run_bind,hr,Result.andThen_ok,Sem.run_pure]
 have hno : μ w.heap.size = none := by
  cases e : μ w.heap.size with
  | none => rfl
  | some c => exact absurd (ha.lt (b := w.heap.size) (by rw [e];simp)) (Nat.lt_irrefl _)
 have hzl : de.zero.cells.size = de.size := Nat.eq_of_beq_eq_true hzs
 have hcells : ∀ n,IVs μ ((List.replicate n z).flatMap enc) (madeCells de.zero.cells (n * de.size)).toList ∧ One (madeCells de.zero.cells (n * de.size)).toList := by
  intro n
  have h4 : (madeCells de.zero.cells (n * de.size)).toList = (List.range (n * de.size)).map (fun j => de.zero.cells[j % de.zero.cells.size]!) := by simp [madeCells]
  have h5 : ∀ n,(List.range (n * de.size)).map (fun j => de.zero.cells[j % de.zero.cells.size]!) = (List.replicate n de.zero.cells.toList).flatten := by
   intro n
   induction n with
   | zero => simp
   | succ n ih =>
    rw [List.replicate_succ',List.flatten_append,← ih,Nat.add_mul,Nat.one_mul,List.range_add,List.map_append]
    congr 1
    simp only [List.flatten_cons,List.flatten_nil,List.append_nil,List.map_map]
    apply List.ext_getElem?
    intro j
    rw [List.getElem?_map]
    by_cases hj : j < de.size
    ·rw [List.getElem?_range hj]
     simp only [Option.map_some,Function.comp]
     rw [hzl,Nat.mul_add_mod_self_right,Nat.mod_eq_of_lt hj,getElem!_pos de.zero.cells j (by omega)]
     rw [Array.getElem?_toList,Array.getElem?_eq_getElem (by omega)]
    ·rw [List.getElem?_eq_none (by simpa using hj),List.getElem?_eq_none (by simp [hzl];omega)];rfl
  rw [h4,h5]
  clear h4
  have h6 : IVs μ (enc z) de.zero.cells.toList := hz μ
  induction n with
  | zero => exact ⟨rfl,fun u hu => by simp at hu⟩
  | succ n ih =>
   rw [List.replicate_succ,List.replicate_succ,List.flatMap_cons,List.flatten_cons]
   exact ⟨h6.append ih.1,(qI h1).append ih.2⟩
 unfold Oper.wp
 rw [hrun]
 refine ⟨_,μ,rfl,?_,⟨_,_,oY _ _ _,by rw [List.length_replicate];exact ho,(hcells n).1,hkk,fun g hg2 => ?_,(hcells n).2⟩,fun g hg2 => ?_,⟨⟨hg.os,hg.tape,hg.output,hg.size,fun k hk => hg.block k hk (by simp)⟩,Mem.le.refl _,fun b hb => .inl hb,?_⟩⟩
 ·unfold SV.R;exact ⟨oY _ _ _,_,n,rfl,.inr ⟨_,rfl⟩⟩
 ·simp only [Value.ownBlock,Option.some.injEq] at hg2;subst hg2;exact hno
 ·simp only [blk,Option.some.injEq] at hg2;omega
 ·intro b cs hb2
  obtain ⟨t',fz,hh⟩ := ha b cs hb2
  exact ⟨t',fz,(hg.block b (Array.getElem?_eq_some_iff.1 hh).1 (by simp)).trans hh⟩
theorem yS {α : Type} {t et : TypeId} {x y : Operand} {de : TyInf} {n k b : Nat} {enc : α → List IV} (z : α) (hT : slT C t = some (et,de)) (hk : de.size = k) (hkk : ∀ a,(enc a).length = k) (hz : enc z = de.zero.cells.toList.map IV.val) (hzs : Nat.beq de.zero.cells.size k = true) (h1 : oneB de.zero.cells.toList = true)
 (hx : Ev σ x (.im (IV.int n))) (hy : Ev σ y (.im (IV.int n))) (hbb : de.bytes = b) (hb0 : b * n ≤ 281474976710656) (hm : n ≤ 4611686018427387904) :
 OpA C ⟨d,.makeSlice t x y,ty,pos,after,gu⟩ σ fr (.row fr n) (.row et k enc (List.replicate n z)) :=
 opa_makeL z hT hk hkk (fun μ => by
  rw [hz]
  have : ∀ us : List Value,IVs μ (us.map IV.val) us := fun us => by
   induction us with
   | nil => rfl
   | cons u us ih => exact ⟨u,us,rfl,rfl,ih⟩
  exact this _) hzs h1 hx hy hbb hb0 hm
end
theorem WP.qshift {C : Cfg} {F : Fx} {nt : Nat} {Q : Exit → St → Prop} {K : St → Prop} {x : St} {c : Code} (z : St) (h : WP C F nt c (XThen (fun y => Shift F nt y z) Q) x) (k : K z) : WP C F nt c (XThen K Q) x := fun μ ρ a w hi => wpIn_mono (h μ ρ a w hi) fun ex a' w' ⟨y,μ',ρ',hq,hy⟩ => by
 cases ex with
 | normal => obtain ⟨μ2,ρ2,h3⟩ := hq _ _ _ _ hy;exact ⟨z,μ2,ρ2,k,h3⟩
 | _ => exact ⟨y,μ',ρ',hq,hy⟩
section
variable {C : Cfg} {σ : Env} {H : List Ent} {fr : Nat} {d : Option Tmp} {ty : TypeId} {pos : String} {after : Array Edge} {gu : Option (Nat × Bool)}
theorem opn_neg {t : TypeId} {x : Operand} {a : Int} (hx : Ev σ x (.im (IV.int a))) (h0 : -9223372036854775807 ≤ a) (h1 : a ≤ 9223372036854775807) : OpN C ⟨d,.unOp .neg t x,ty,pos,after,gu⟩ σ (.im (IV.int (-a))) := OpN.pure fun ρ μ ac w hl ha => by
 have h2 := hx.val hl (by simp [Op.operands])
 refine ⟨.int .i64 (-a),?_,oi.2 rfl⟩
 have hw : wrap64 (-a) = -a := by unfold wrap64;omega
 simp [execOp,h2,Op.unary,Op.intArith,wrap_i64,hw]
def FnRow (C : Cfg) (f : FuncId) (args : List IV) (t k : Nat) {α : Type} (enc : α → List IV) (xs : List α) : Prop :=
 ((∃ fn,C.P.funcs[f]? = some fn ∧ fn.body.isNone = false ∧ (fn.name == "runtime.NumGoroutine") = false) ∧ ∀ x,(enc x).length = k) ∧
 ∀ μ w vs,IVs μ args vs → Agr μ w → Calls C.P f vs.toArray w fun e w' => ∃ v μ' us,e = .returned v ∧ w'.ownsRow w.heap.size t k v xs.length us ∧ IvFlat μ' enc xs us ∧ One us ∧ (∀ g,v.ownBlock = some g → μ' g = none) ∧ Stp μ w μ' w'
theorem yp {f : FuncId} {xs : List Operand} {tys : Array TypeId} {args : List IV} {t k : Nat} {α : Type} {enc : α → List IV} {ys : List α} (hf : FnRow C f args t k enc ys) (hx : Evs σ xs args) : OpA C ⟨d,.call { callee := .value (.func f),args := xs.toArray,argTypes := tys },ty,pos,after,gu⟩ σ fr (.row fr ys.length) (.row t k enc ys) := OpA.of rfl fun ρ μ a w hl ha hfr => by
 obtain ⟨⟨⟨fn,h1,h2,h3⟩,hk⟩,h4⟩ := hf
 have h5 := hx.at hl (fun x hx => by simp [Op.operands,Call.operands,hx])
 have h6 : (execOp a.eval ⟨d,.call { callee := .value (.func f),args := xs.toArray,argTypes := tys },ty,pos,after,gu⟩).run C.P w = .ok (.enter f (xs.map a.eval).toArray) w := by
  simp [execOp,resolve,Act.eval,Deferred.ofValue,invoke,oX h1 h2 h3]
 unfold Oper.wp
 rw [h6]
 refine Calls.mono (h4 μ w _ h5 ha) ?_
 rintro e w' ⟨v,μ',us,rfl,h7,h8,h9,h10,h11⟩
 refine ⟨v,μ',rfl,?_,⟨v,us,oY _ _ _,⟨h7.1,h7.2.imp id (fun ⟨g,cap,cur,e,_,r⟩ => ⟨g,cap,cur,e,Nat.zero_le _,r⟩)⟩,h8,hk,h10,h9⟩,fun g hg => ?_,h11⟩
 ·unfold SV.R
  refine ⟨oY _ _ _,?_⟩
  rcases h7.2 with ⟨rfl,hn⟩ | ⟨g,cap,cur,rfl,_⟩
  ·exact ⟨none,0,by rw [hn],.inl hn⟩
  ·exact ⟨_,cap,rfl,.inr ⟨g,rfl⟩⟩
 ·rw [oh h7] at hg
  exact (World.ownsRow.lt h7 g hg).1
end
mutual
def SV.rn (f : Nat → Nat) : SV → SV
 | .im s => .im s
 | .off i o => .off (f i) o
 | .row i n => .row (f i) n
 | .sl i n => .sl (f i) n
 | .agg l => .agg (SV.rns f l)
 | .cnd b s => .cnd b (SV.rn f s)
 | .fn g l => .fn g (SV.rns f l)
 | .is u s => .is u (SV.rn f s)
 | .hd i => .hd (f i)
 | .pk n l => .pk n (SV.rns f l)
 | .tup l => .tup (SV.rns f l)
 | .pp l => .pp (SV.rns f l)
def SV.rns (f : Nat → Nat) : List SV → List SV
 | [] => []
 | s :: l => SV.rn f s :: SV.rns f l
end
mutual
def SV.nm (p : Nat → Bool) : SV → Bool
 | .im _ => true
 | .off i _ => p i
 | .sl i _ => p i
 | .row i _ => p i
 | .agg l => SV.nms p l
 | .cnd _ s => SV.nm p s
 | .fn _ l => SV.nms p l
 | .is _ s => SV.nm p s
 | .hd i => p i
 | .pk _ l => SV.nms p l
 | .tup l => SV.nms p l
 | .pp l => SV.nms p l
def SV.nms (p : Nat → Bool) : List SV → Bool
 | [] => true
 | s :: l => SV.nm p s && SV.nms p l
end
mutual
theorem SV.R_rn {f : Nat → Nat} {p : Nat → Bool} {ρ ρ' : Nms} {μ : Mem} (h : ∀ i,p i = true → ρ' (f i) = ρ i) : ∀ {s : SV} {v : Value},SV.nm p s = true → (SV.R ρ' μ (SV.rn f s) v ↔ SV.R ρ μ s v)
 | .im _,v,_ => by simp only [SV.rn,SV.R]
 | .off i o,v,k => by simp only [SV.rn,SV.R];rw [h i (by simpa [SV.nm] using k)]
 | .sl i o,v,k => by simp only [SV.rn,SV.R];rw [h i (by simpa [SV.nm] using k)]
 | .row i n,v,k => by simp only [SV.rn,SV.R];rw [h i (by simpa [SV.nm] using k)]
 | .agg l,v,k => by
  simp only [SV.rn,SV.R]
  exact ⟨fun ⟨vs,e,a,o⟩ => ⟨vs,e,(SV.Rs_rn h (by simpa [SV.nm] using k)).1 a,o⟩,fun ⟨vs,e,a,o⟩ => ⟨vs,e,(SV.Rs_rn h (by simpa [SV.nm] using k)).2 a,o⟩⟩
 | .cnd b s,v,k => by
  simp only [SV.rn,SV.R]
  have := SV.R_rn h (s := s) (v := v) (μ := μ) (by simpa [SV.nm] using k)
  exact ⟨fun ⟨a,b⟩ => ⟨fun e => this.1 (a e),b⟩,fun ⟨a,b⟩ => ⟨fun e => this.2 (a e),b⟩⟩
 | .fn g l,v,k => by
  simp only [SV.rn,SV.R]
  exact ⟨fun ⟨vs,e,a⟩ => ⟨vs,e,(SV.Rs_rn h (by simpa [SV.nm] using k)).1 a⟩,fun ⟨vs,e,a⟩ => ⟨vs,e,(SV.Rs_rn h (by simpa [SV.nm] using k)).2 a⟩⟩
 | .is u s,v,k => by
  simp only [SV.rn,SV.R]
  have := SV.R_rn h (s := s) (v := v) (μ := μ) (by simpa [SV.nm] using k)
  exact ⟨fun ⟨a,b⟩ => ⟨a,this.1 b⟩,fun ⟨a,b⟩ => ⟨a,this.2 b⟩⟩
 | .hd i,v,k => by simp only [SV.rn,SV.R];rw [h i (by simpa [SV.nm] using k)]
 | .pk n l,v,k => by
  simp only [SV.rn,SV.R]
  exact ⟨fun ⟨b,vs,e,m,a,o⟩ => ⟨b,vs,e,m,(SV.Rs_rn h (by simpa [SV.nm] using k)).1 a,o⟩,fun ⟨b,vs,e,m,a,o⟩ => ⟨b,vs,e,m,(SV.Rs_rn h (by simpa [SV.nm] using k)).2 a,o⟩⟩
 | .tup l,v,k => by
  simp only [SV.rn,SV.R]
  exact ⟨fun ⟨vs,e,a⟩ => ⟨vs,e,(SV.Rs_rn h (by simpa [SV.nm] using k)).1 a⟩,fun ⟨vs,e,a⟩ => ⟨vs,e,(SV.Rs_rn h (by simpa [SV.nm] using k)).2 a⟩⟩
 | .pp l,v,k => by
  simp only [SV.rn,SV.R]
  exact ⟨fun ⟨b,q,us,e,m,a,o⟩ => ⟨b,q,us,e,m,(SV.Rs_rn h (by simpa [SV.nm] using k)).1 a,o⟩,fun ⟨b,q,us,e,m,a,o⟩ => ⟨b,q,us,e,m,(SV.Rs_rn h (by simpa [SV.nm] using k)).2 a,o⟩⟩
theorem SV.Rs_rn {f : Nat → Nat} {p : Nat → Bool} {ρ ρ' : Nms} {μ : Mem} (h : ∀ i,p i = true → ρ' (f i) = ρ i) : ∀ {l : List SV} {vs : List Value},SV.nms p l = true → (SV.Rs ρ' μ (SV.rns f l) vs ↔ SV.Rs ρ μ l vs)
 | [],vs,_ => by simp only [SV.rns,SV.Rs]
 | s :: l,vs,k => by
  simp only [SV.nms,Bool.and_eq_true] at k
  simp only [SV.rns,SV.Rs]
  exact ⟨fun ⟨v,vs',e,a,b⟩ => ⟨v,vs',e,(SV.R_rn h k.1).1 a,(SV.Rs_rn h k.2).1 b⟩,fun ⟨v,vs',e,a,b⟩ => ⟨v,vs',e,(SV.R_rn h k.1).2 a,(SV.Rs_rn h k.2).2 b⟩⟩
end
mutual
theorem SV.rn_id : ∀ (s : SV),SV.rn (fun i => i) s = s
 | .im _ => rfl
 | .off _ _ => rfl
 | .sl _ _ => rfl
 | .row _ _ => rfl
 | .agg l => by simp only [SV.rn,SV.rns_id l]
 | .cnd _ s => by simp only [SV.rn,SV.rn_id s]
 | .fn _ l => by simp only [SV.rn,SV.rns_id l]
 | .is _ s => by simp only [SV.rn,SV.rn_id s]
 | .hd _ => rfl
 | .pk _ l => by simp only [SV.rn,SV.rns_id l]
 | .tup l => by simp only [SV.rn,SV.rns_id l]
 | .pp l => by simp only [SV.rn,SV.rns_id l]
theorem SV.rns_id : ∀ (l : List SV),SV.rns (fun i => i) l = l
 | [] => rfl
 | s :: l => by simp only [SV.rns,SV.rn_id s,SV.rns_id l]
end
def HObj.rn (f : Nat → Nat) : HObj → HObj
 | .blk t cs => .blk t (SV.rns f cs)
 | .row t k enc xs => .row t k enc xs
 | .obj O => .obj O
 | .nest t et k enc xss => .nest t et k enc xss
def HObj.nm (p : Nat → Bool) : HObj → Bool
 | .blk _ cs => SV.nms p cs
 | .row _ _ _ _ => true
 | .obj _ => true
 | .nest _ _ _ _ _ => true
def HObj.nbF (f : Nat → Nat) (i : Nat) : HObj → Bool
 | .nest _ _ _ _ _ => (List.range 16).all fun k => Nat.beq (f (i + k)) (f i + k)
 | _ => true
def HObj.nbP (p : Nat → Bool) (i : Nat) : HObj → Bool
 | .nest _ _ _ _ _ => (List.range 16).all fun k => p (i + k)
 | _ => true
theorem HObj.nb_at {f : Nat → Nat} {p : Nat → Bool} {i : Nat} {o : HObj} (hf : o.nbF f i = true) (hp : o.nbP p i = true) (hi : p i = true) {ρ0 : Nms} {μ : Mem} {w : World} {i0 : Nat} (ho : EntOk ρ0 μ w (i0,o)) : ∀ k,k < o.span → p (i + k) = true ∧ f (i + k) = f i + k := fun k hk => by
 cases o with
 | nest t et q enc xss =>
  have hl := ho.1
  simp only [HObj.span] at hk
  exact ⟨List.all_eq_true.1 hp k (List.mem_range.2 (by omega)),Nat.eq_of_beq_eq_true (List.all_eq_true.1 hf k (List.mem_range.2 (by omega)))⟩
 | _ =>
  have : k = 0 := by simp only [HObj.span] at hk;omega
  subst this
  exact ⟨hi,rfl⟩
theorem HObj.rn_span (f : Nat → Nat) (o : HObj) : (o.rn f).span = o.span := by cases o <;> rfl
theorem EntOk.rn {f : Nat → Nat} {p : Nat → Bool} {ρ ρ' : Nms} {μ : Mem} {w : World} (h : ∀ i,p i = true → ρ' (f i) = ρ i) {i : Nat} {o : HObj} (hi : p i = true) (ho : o.nm p = true) (hf : o.nbF f i = true) (hp : o.nbP p i = true) : EntOk ρ' μ w (f i,o.rn f) ↔ EntOk ρ μ w (i,o) := by
 cases o with
 | blk t cs =>
  simp only [EntOk,HObj.rn,h i hi]
  simp only [HObj.nm] at ho
  exact ⟨fun ⟨g,us,a,b,c,d⟩ => ⟨g,us,a,b,(SV.Rs_rn h ho).1 c,d⟩,fun ⟨g,us,a,b,c,d⟩ => ⟨g,us,a,b,(SV.Rs_rn h ho).2 c,d⟩⟩
 | row t k enc xs => simp only [EntOk,HObj.rn,h i hi]
 | obj O => simp only [EntOk,HObj.rn,h i hi]
 | nest t et k enc xss =>
  have h6 : ∀ q,q < 16 → ρ' (f i + q) = ρ (i + q) := fun q hq => by
   rw [← Nat.eq_of_beq_eq_true (List.all_eq_true.1 hf q (List.mem_range.2 hq)),h _ (List.all_eq_true.1 hp q (List.mem_range.2 hq))]
  have h8 : ∀ q,q + 1 < 16 → ρ' (f i + 1 + q) = ρ (i + 1 + q) := fun q hq => by
   rw [show f i + 1 + q = f i + (q + 1) by omega,h6 _ hq,show i + (q + 1) = i + 1 + q by omega]
  simp only [EntOk,HObj.rn,h i hi]
  refine ⟨fun ⟨hl,hk,⟨v,us,k1,k2,k3,k4⟩,k5⟩ => ⟨hl,hk,⟨v,us,k1,k2,k3,fun q xs hq => ?_⟩,fun q q' hq hq' hne g => ?_⟩,fun ⟨hl,hk,⟨v,us,k1,k2,k3,k4⟩,k5⟩ => ⟨hl,hk,⟨v,us,k1,k2,k3,fun q xs hq => ?_⟩,fun q q' hq hq' hne g => ?_⟩⟩
  ·have := (List.getElem?_eq_some_iff.1 hq).1
   rw [← h8 q (by omega)];exact k4 q xs hq
  ·rw [← h6 q (by omega),← h6 q' (by omega)];exact k5 q q' hq hq' hne g
  ·have := (List.getElem?_eq_some_iff.1 hq).1
   rw [h8 q (by omega)];exact k4 q xs hq
  ·rw [h6 q (by omega),h6 q' (by omega)];exact k5 q q' hq hq' hne g
theorem eb_rn {f : Nat → Nat} {p : Nat → Bool} {ρ ρ' ρ0 : Nms} {μ : Mem} {w : World} (h : ∀ i,p i = true → ρ' (f i) = ρ i) {i i0 : Nat} {o : HObj} (hi : p i = true) (hf : o.nbF f i = true) (hp : o.nbP p i = true) (ho : EntOk ρ0 μ w (i0,o)) : eb ρ' (f i,o.rn f) = eb ρ (i,o) := by
 have h1 := HObj.nb_at hf hp hi ho
 have h2 : ∀ j,j < o.span → ρ' (f i + j) = ρ (i + j) := fun j hj => by
  obtain ⟨a,b⟩ := h1 j hj
  rw [← b,h _ a]
 funext g
 unfold eb
 simp only [HObj.rn_span]
 exact propext ⟨fun ⟨j,hj,h⟩ => ⟨j,hj,by rw [← h2 j hj];exact h⟩,fun ⟨j,hj,h⟩ => ⟨j,hj,by rw [h2 j hj];exact h⟩⟩
def ltB (n i : Nat) : Bool := Nat.blt i n
def pnB (pn : List Nat) (fr fr' i : Nat) : Bool := pn.any (Nat.beq i) || (Nat.ble fr i && Nat.blt i fr')
def hOk (p : Nat → Bool) : List Ent → Bool
 | [] => true
 | (i,o) :: H => p i && o.nm p && o.nbP p i && hOk p H
theorem hOk_at {p : Nat → Bool} : ∀ {H : List Ent},hOk p H = true → ∀ e ∈ H,(p e.1 = true ∧ e.2.nm p = true) ∧ e.2.nbP p e.1 = true
 | (i,o) :: H,h,e,he => by
  simp only [hOk,Bool.and_eq_true] at h
  rcases List.mem_cons.1 he with rfl | he
  ·exact h.1
  ·exact hOk_at h.2 e he
structure FnE (C : Cfg) (f : FuncId) (fr : Nat) (args : List SV) (H : List Ent) (s : SV) (H' : List Ent) (fr' : Nat) (pn : List Nat) : Prop where
 fn : ∃ fn,C.P.funcs[f]? = some fn ∧ fn.body.isNone = false ∧ (fn.name == "runtime.NumGoroutine") = false
 argsOk : SV.nms (ltB fr) args = true
 hOk : hOk (ltB fr) H = true
 resOk : SV.nm (pnB pn fr fr') s = true
 hOk' : Go.Proofs.YtjgmbgfcffnanaaGreatDoor.hOk (pnB pn fr fr') H' = true
 pnOk : pn.all (ltB fr) = true
 frOk : Nat.ble fr fr' = true
 calls : ∀ ρ μ w vs,SV.Rs ρ μ args vs → Agr μ w → HeapOk ρ μ w H → (∀ i,ρ i ≠ none → i < fr) → Calls C.P f vs.toArray w fun e w' => ∃ v μ' ρ',e = .returned v ∧ SV.R ρ' μ' s v ∧ HeapOk ρ' μ' w' H' ∧ (∀ i ∈ pn,ρ' i = ρ i) ∧ EStp ρ H μ w ρ' H' μ' w'
def cfn (ns : List Nat) (fr0 i : Nat) : Nat := match ns[i]? with
 | some j => j
 | none => fr0 + (i - ns.length)
def hren (f : Nat → Nat) : List Ent → List Ent
 | [] => []
 | (i,o) :: H => (f i,o.rn f) :: hren f H
theorem hren_mem {f : Nat → Nat} : ∀ {H : List Ent} {e : Ent},e ∈ hren f H → ∃ e0 ∈ H,e = (f e0.1,e0.2.rn f)
 | (i,o) :: H,e,h => by
  rcases List.mem_cons.1 h with rfl | h
  ·exact ⟨(i,o),List.mem_cons_self,rfl⟩
  ·obtain ⟨e0,h1,h2⟩ := hren_mem h
   exact ⟨e0,List.mem_cons_of_mem _ h1,h2⟩
def hdels : List Ent → List Nat → List Ent
 | H,[] => H
 | H,n :: ns => hdels (hdel H n) ns
theorem hdels_mem : ∀ {ns : List Nat} {H : List Ent} {e : Ent},e ∈ hdels H ns → e ∈ H ∧ e.1 ∉ ns
 | [],H,e,h => ⟨h,by simp⟩
 | n :: ns,H,e,h => by
  obtain ⟨h1,h2⟩ := hdels_mem (ns := ns) h
  obtain ⟨h3,h4⟩ := ov h1
  refine ⟨h3,fun h5 => ?_⟩
  rcases List.mem_cons.1 h5 with h5 | h5
  ·exact h4 h5
  ·exact h2 h5
inductive HIn (f : Nat → Nat) (Hc : List Ent) : List Ent → Prop
 | nil : HIn f Hc []
 | cons {i : Nat} {o : HObj} {H : List Ent} (h : hget Hc (f i) = some (o.rn f)) (t : HIn f Hc H) (hb : o.nbF f i = true := by rfl) : HIn f Hc ((i,o) :: H)
theorem HIn.at {f : Nat → Nat} {Hc H : List Ent} (h : HIn f Hc H) : ∀ {e : Ent},e ∈ H → (f e.1,e.2.rn f) ∈ Hc ∧ e.2.nbF f e.1 = true := by
 induction h with
 | nil => intro e h;cases h
 | cons h t hb ih =>
  intro e he
  rcases List.mem_cons.1 he with rfl | he
  ·exact ⟨om h,hb⟩
  ·exact ih he
def nbAll (f : Nat → Nat) : List Ent → Bool
 | [] => true
 | (i,o) :: H => o.nbF f i && nbAll f H
theorem jC {f : Nat → Nat} : ∀ {H : List Ent},nbAll f H = true → ∀ e ∈ H,e.2.nbF f e.1 = true
 | (i,o) :: H,h,e,he => by
  simp only [nbAll,Bool.and_eq_true] at h
  rcases List.mem_cons.1 he with rfl | he
  ·exact h.1
  ·exact jC h.2 e he
def nodupB : List Nat → Bool
 | [] => true
 | n :: ns => !ns.any (Nat.beq n) && nodupB ns
theorem nodupB_at : ∀ {ns : List Nat},nodupB ns = true → ∀ {i j x : Nat},ns[i]? = some x → ns[j]? = some x → i = j
 | n :: ns,h,i,j,x,hi,hj => by
  simp only [nodupB,Bool.and_eq_true,Bool.not_eq_true'] at h
  have hno : ∀ k,ns[k]? = some n → False := fun k hk => by
   have := List.any_eq_false.1 h.1 n (List.mem_of_getElem? hk)
   simp at this
  cases i with
  | zero =>
   simp at hi;subst hi
   cases j with
   | zero => rfl
   | succ j => exact (hno j (by simpa using hj)).elim
  | succ i =>
   cases j with
   | zero => simp at hj;subst hj;exact (hno i (by simpa using hi)).elim
   | succ j => rw [nodupB_at h.2 (i := i) (j := j) (by simpa using hi) (by simpa using hj)]
inductive EvsS (σ : Env) (f : Nat → Nat) : List Go.Operand → List SV → Prop
 | nil : EvsS σ f [] []
 | cons {x : Go.Operand} {s : SV} {xs : List Go.Operand} {l : List SV} (h : Ev σ x (s.rn f)) (t : EvsS σ f xs l) : EvsS σ f (x :: xs) (s :: l)
theorem EvsS.at {σ : Env} {f : Nat → Nat} {ρ : Nms} {μ : Mem} {o : Oper} {a : Act} (hl : LookOk ρ μ σ o a) : ∀ {xs : List Go.Operand} {l : List SV},EvsS σ f xs l → (∀ x ∈ xs,x ∈ o.op.operands.toList) → SV.Rs ρ μ (SV.rns f l) (xs.map a.eval)
 | [],_,.nil,_ => by simp [SV.rns,SV.Rs]
 | x :: xs,_,.cons h t,hm => by
  simp only [SV.rns,SV.Rs,List.map_cons]
  exact ⟨_,_,rfl,h.at hl (hm x List.mem_cons_self),EvsS.at hl t fun y hy => hm y (List.mem_cons_of_mem _ hy)⟩
section
variable {C : Cfg} {σ : Env} {d : Option Tmp} {ty : TypeId} {pos : String} {after : Array Edge} {gu : Option (Nat × Bool)} {Hc : List Ent} {fr0 : Nat}
theorem callE_post {f : FuncId} {fr fr' : Nat} {args : List SV} {H H' : List Ent} {s : SV} {pn : List Nat} (hf : FnE C f fr args H s H' fr' pn) (ns : List Nat) (hn : Nat.beq ns.length fr = true) (hb : ns.all (ltB fr0) = true) (hd : nodupB ns = true)
 (hin : HIn (cfn ns fr0) Hc H) (hnb : nbAll (cfn ns fr0) H' = true) {ρ : Nms} {μ : Mem} {w : World} (ha : Agr μ w) (hH : HeapOk ρ μ w Hc) (hfree : ∀ i,fr0 ≤ i → i < fr0 + (fr' - fr) → ρ i = none) {vs : List Value} (hvs : SV.Rs ρ μ (SV.rns (cfn ns fr0) args) vs) :
 Calls C.P f vs.toArray w fun e w' => ∃ v μ' ρ',e = .returned v ∧ SV.R ρ' μ' (s.rn (cfn ns fr0)) v ∧ HeapOk ρ' μ' w' (hren (cfn ns fr0) H' ++ hdels Hc ns) ∧ Nms.le ρ ρ' ∧ (∀ i,ρ' i ≠ none → ρ i ≠ none ∨ (fr0 ≤ i ∧ i < fr0 + (fr' - fr))) ∧ EStp ρ Hc μ w ρ' (hren (cfn ns fr0) H' ++ hdels Hc ns) μ' w' := by
 have hn := Nat.eq_of_beq_eq_true hn
 have hfr := Nat.le_of_ble_eq_true hf.frOk
 have hlt : ∀ i,i < fr → ∃ j,ns[i]? = some j ∧ cfn ns fr0 i = j ∧ j < fr0 := fun i hi => by
  have h1 : i < ns.length := by omega
  refine ⟨ns[i],List.getElem?_eq_getElem h1,by unfold cfn;rw [List.getElem?_eq_getElem h1],?_⟩
  have := List.all_eq_true.1 hb ns[i] (List.getElem_mem h1)
  exact Nat.blt_eq ▸ this
 have hge : ∀ i,fr ≤ i → cfn ns fr0 i = fr0 + (i - fr) := fun i hi => by
  unfold cfn;rw [List.getElem?_eq_none (by omega)];simp only [hn]
 have hltB : ∀ i,ltB fr i = true → i < fr := fun i h => Nat.blt_eq ▸ h
 obtain ⟨ρ1,hρ1⟩ : ∃ ρ1 : Nms,ρ1 = fun i => if i < fr then ρ (cfn ns fr0 i) else none := ⟨_,rfl⟩
 have hag : ∀ i,ltB fr i = true → ρ (cfn ns fr0 i) = ρ1 i := fun i h => by rw [hρ1];simp only [if_pos (hltB i h)]
 have hHok := hOk_at hf.hOk
 have hok1 : ∀ e ∈ H,EntOk ρ1 μ w e := fun e he => (EntOk.rn hag (hHok e he).1.1 (hHok e he).1.2 (hin.at he).2 (hHok e he).2).1 (hH.1 _ (hin.at he).1)
 have hent : ∀ e ∈ H,(cfn ns fr0 e.1,e.2.rn (cfn ns fr0)) ∈ Hc ∧ eb ρ1 e = eb ρ (cfn ns fr0 e.1,e.2.rn (cfn ns fr0)) := fun e he => ⟨(hin.at he).1,(eb_rn hag (hHok e he).1.1 (hin.at he).2 (hHok e he).2 (hok1 e he)).symm⟩
 have hH1 : HeapOk ρ1 μ w H := by
  refine ⟨hok1,fun e he e' he' hne g hg => ?_⟩
  rw [(hent e he).2] at hg
  rw [(hent e' he').2]
  refine hH.2 _ (hent e he).1 _ (hent e' he').1 (fun h1 => hne ?_) g hg
  obtain ⟨j,h2,h3,_⟩ := hlt e.1 (hltB _ (hHok e he).1.1)
  obtain ⟨j',h2',h3',_⟩ := hlt e'.1 (hltB _ (hHok e' he').1.1)
  have h1 : cfn ns fr0 e.1 = cfn ns fr0 e'.1 := h1
  rw [h3,h3'] at h1
  subst h1
  exact nodupB_at hd h2 h2'
 refine Calls.mono (hf.calls ρ1 μ w vs ((SV.Rs_rn hag hf.argsOk).1 hvs) ha hH1 (fun i hi => by
  rw [hρ1] at hi
  by_cases h : i < fr
  ·exact h
  ·simp only [if_neg h] at hi;exact absurd rfl hi)) ?_
 rintro e w' ⟨v,μ',ρ1',rfl,h1,h2,h3,h4⟩
 obtain ⟨ρ',hρ'⟩ : ∃ ρ' : Nms,ρ' = fun j => if fr0 ≤ j ∧ j < fr0 + (fr' - fr) then ρ1' (j - fr0 + fr) else ρ j := ⟨_,rfl⟩
 have hle : Nms.le ρ ρ' := fun i u hi => by
  rw [hρ']
  by_cases h : fr0 ≤ i ∧ i < fr0 + (fr' - fr)
  ·rw [hfree i h.1 h.2] at hi;cases hi
  ·simp only [if_neg h];exact hi
 have hag' : ∀ i,pnB pn fr fr' i = true → ρ' (cfn ns fr0 i) = ρ1' i := fun i h => by
  unfold pnB at h
  rcases Bool.or_eq_true _ _ ▸ h with h5 | h5
  ·obtain ⟨k,h6,h7⟩ := List.any_eq_true.1 h5
   have := Nat.eq_of_beq_eq_true h7
   subst this
   have h8 := List.all_eq_true.1 hf.pnOk i h6
   obtain ⟨j,_,h9,h10⟩ := hlt i (hltB i h8)
   rw [h3 i h6,← hag i h8,hρ',h9]
   simp only [if_neg (show ¬ (fr0 ≤ j ∧ j < fr0 + (fr' - fr)) by omega)]
  ·simp only [Bool.and_eq_true] at h5
   have h6 := Nat.le_of_ble_eq_true h5.1
   have h7 : i < fr' := Nat.blt_eq ▸ h5.2
   rw [hge i h6,hρ']
   simp only [if_pos (show fr0 ≤ fr0 + (i - fr) ∧ fr0 + (i - fr) < fr0 + (fr' - fr) by omega)]
   rw [show fr0 + (i - fr) - fr0 + fr = i by omega]
 have hHok' := hOk_at hf.hOk'
 have hout : ∀ e ∈ hren (cfn ns fr0) H',∃ e0 ∈ H',e = (cfn ns fr0 e0.1,e0.2.rn (cfn ns fr0)) ∧ eb ρ' e = eb ρ1' e0 := fun e he => by
  obtain ⟨e0,h5,rfl⟩ := hren_mem he
  exact ⟨e0,h5,rfl,eb_rn hag' (hHok' e0 h5).1.1 (jC hnb e0 h5) (hHok' e0 h5).2 (h2.1 e0 h5)⟩
 have hrest : ∀ e ∈ hdels Hc ns,e ∈ Hc ∧ eb ρ' e = eb ρ e ∧ ∀ g,eb ρ e g → ∀ e0 ∈ H,¬ eb ρ1 e0 g := fun e he => by
  obtain ⟨h5,h6⟩ := hdels_mem he
  refine ⟨h5,eb_le hle (hH.1 e h5).named,fun g hg e0 he0 hg0 => ?_⟩
  rw [(hent e0 he0).2] at hg0
  refine hH.2 _ (hent e0 he0).1 e h5 (fun h7 => h6 ?_) g hg0 hg
  obtain ⟨j,h8,h9,_⟩ := hlt e0.1 (hltB _ (hHok e0 he0).1.1)
  have h7 : cfn ns fr0 e0.1 = e.1 := h7
  rw [h9] at h7
  subst h7
  exact List.mem_of_getElem? h8
 refine ⟨v,μ',ρ',rfl,(SV.R_rn hag' hf.resOk).2 h1,⟨fun e he => ?_,fun e he e' he' hne g hg hg' => ?_⟩,hle,fun i hi => ?_,⟨h4.os,h4.tape,h4.output,h4.size,fun k hk hno => h4.block k hk fun e he => ?_,h4.le,fun b hb => ?_,h4.agr,fun e he g hg => ?_⟩⟩
 ·rcases List.mem_append.1 he with he | he
  ·obtain ⟨e0,h5,rfl,_⟩ := hout e he
   exact (EntOk.rn hag' (hHok' e0 h5).1.1 (hHok' e0 h5).1.2 (jC hnb e0 h5) (hHok' e0 h5).2).2 (h2.1 e0 h5)
  ·obtain ⟨h5,h6,h7⟩ := hrest e he
   refine (hH.1 e h5).keep hle h4.le fun g hg => ?_
   obtain ⟨h8,h9⟩ := (hH.1 e h5).lt hg
   refine ⟨h4.block g h8 (h7 g hg),?_⟩
   cases e1 : μ' g with
   | none => rfl
   | some cs =>
    rcases h4.new g (by rw [e1];simp) with h10 | h10 | ⟨e0,h10,h11⟩
    ·exact absurd h9 h10
    ·omega
    ·exact absurd h11 (h7 g hg e0 h10)
 ·have key : ∀ e ∈ hren (cfn ns fr0) H',∀ e' ∈ hdels Hc ns,∀ g,eb ρ' e g → ¬ eb ρ' e' g := fun e he e' he' g hg hg' => by
   obtain ⟨e0,h5,rfl,h6⟩ := hout e he
   obtain ⟨h7,h8,h9⟩ := hrest e' he'
   rw [h6] at hg
   rw [h8] at hg'
   rcases h4.own e0 h5 g hg with ⟨e1,h10,h11⟩ | h10
   ·exact h9 g hg' e1 h10 h11
   ·have := ((hH.1 e' h7).lt hg').1;omega
  rcases List.mem_append.1 he with he | he
  ·rcases List.mem_append.1 he' with he' | he'
   ·obtain ⟨e0,h5,rfl,h6⟩ := hout e he
    obtain ⟨e0',h5',rfl,h6'⟩ := hout e' he'
    rw [h6] at hg
    rw [h6'] at hg'
    exact h2.2 e0 h5 e0' h5' (fun h => hne (by simp only [h])) g hg hg'
   ·exact key e he e' he' g hg hg'
  ·rcases List.mem_append.1 he' with he' | he'
   ·exact key e' he' e he g hg' hg
   ·obtain ⟨h5,h6,_⟩ := hrest e he
    obtain ⟨h5',h6',_⟩ := hrest e' he'
    rw [h6] at hg
    rw [h6'] at hg'
    exact hH.2 e h5 e' h5' hne g hg hg'
 ·rw [hρ'] at hi
  by_cases h : fr0 ≤ i ∧ i < fr0 + (fr' - fr)
  ·exact .inr h
  ·simp only [if_neg h] at hi;exact .inl hi
 ·rw [(hent e he).2]
  exact hno _ (hent e he).1
 ·rcases h4.new b hb with h5 | h5 | ⟨e,h5,h6⟩
  ·exact .inl h5
  ·exact .inr (.inl h5)
  ·exact .inr (.inr ⟨_,(hent e h5).1,by rw [← (hent e h5).2];exact h6⟩)
 ·rcases List.mem_append.1 he with he | he
  ·obtain ⟨e0,h5,rfl,h6⟩ := hout e he
   rw [h6] at hg
   rcases h4.own e0 h5 g hg with ⟨e1,h7,h8⟩ | h7
   ·exact .inl ⟨_,(hent e1 h7).1,by rw [← (hent e1 h7).2];exact h8⟩
   ·exact .inr h7
  ·obtain ⟨h5,h6,_⟩ := hrest e he
   rw [h6] at hg
   exact .inl ⟨e,h5,hg⟩
theorem o5 {f : FuncId} {xs : List Go.Operand} {tys : Array TypeId} {fr fr' : Nat} {args : List SV} {H H' : List Ent} {s : SV} {pn : List Nat} (ns : List Nat) (hf : FnE C f fr args H s H' fr' pn) (hx : EvsS σ (cfn ns fr0) xs args) (hn : Nat.beq ns.length fr = true) (hb : ns.all (ltB fr0) = true) (hd : nodupB ns = true) (hin : HIn (cfn ns fr0) Hc H) (hnb : nbAll (cfn ns fr0) H' = true := by rfl) :
 OpE C ⟨d,.call { callee := .value (.func f),args := xs.toArray,argTypes := tys },ty,pos,after,gu⟩ σ Hc fr0 (s.rn (cfn ns fr0)) (hren (cfn ns fr0) H' ++ hdels Hc ns) (fr0 + (fr' - fr)) := fun ρ μ a w hl ha hH hfree => by
 obtain ⟨fn,h1,h2,h3⟩ := hf.fn
 have h5 := hx.at hl (fun x hx => by simp [Op.operands,Call.operands,hx])
 have h6 : (execOp a.eval ⟨d,.call { callee := .value (.func f),args := xs.toArray,argTypes := tys },ty,pos,after,gu⟩).run C.P w = .ok (.enter f (xs.map a.eval).toArray) w := by
  simp [execOp,resolve,Act.eval,Deferred.ofValue,invoke,oX h1 h2 h3]
 unfold Oper.wp
 rw [h6]
 refine Calls.mono (callE_post hf ns hn hb hd hin hnb ha hH hfree h5) ?_
 rintro e w' ⟨v,μ',ρ',rfl,h⟩
 exact ⟨v,μ',ρ',rfl,h⟩
theorem Rs_append {ρ : Nms} {μ : Mem} : ∀ {l l' : List SV} {vs vs' : List Value},SV.Rs ρ μ l vs → SV.Rs ρ μ l' vs' → SV.Rs ρ μ (l ++ l') (vs ++ vs')
 | [],_,_,_,h,h' => by unfold SV.Rs at h;subst h;exact h'
 | s :: l,_,_,_,h,h' => by
  unfold SV.Rs at h
  obtain ⟨v,vs2,rfl,h1,h2⟩ := h
  show SV.Rs ρ μ (s :: (l ++ _)) (v :: (vs2 ++ _))
  unfold SV.Rs
  exact ⟨v,_,rfl,h1,Rs_append h2 h'⟩
theorem vE (f : Nat → Nat) : ∀ (l l' : List SV),SV.rns f (l ++ l') = SV.rns f l ++ SV.rns f l'
 | [],_ => rfl
 | s :: l,l' => by simp only [List.cons_append,SV.rns,vE f l l']
theorem qo {f : FuncId} {x : Go.Operand} {xs : List Go.Operand} {tys : Array TypeId} {fr fr' : Nat} {args caps : List SV} {H H' : List Ent} {s : SV} {pn : List Nat} (ns : List Nat) (hv : Ev σ x (.fn f (SV.rns (cfn ns fr0) caps))) (hf : FnE C f fr (args ++ caps) H s H' fr' pn) (hx : EvsS σ (cfn ns fr0) xs args)
 (hn : Nat.beq ns.length fr = true) (hb : ns.all (ltB fr0) = true) (hd : nodupB ns = true) (hin : HIn (cfn ns fr0) Hc H) (hnb : nbAll (cfn ns fr0) H' = true := by rfl) :
 OpE C ⟨d,.call { callee := .value x,args := xs.toArray,argTypes := tys },ty,pos,after,gu⟩ σ Hc fr0 (s.rn (cfn ns fr0)) (hren (cfn ns fr0) H' ++ hdels Hc ns) (fr0 + (fr' - fr)) := fun ρ μ a w hl ha hH hfree => by
 obtain ⟨fn,h1,h2,h3⟩ := hf.fn
 have h9 := hv.at hl (by simp [Op.operands,Call.operands])
 unfold SV.R at h9
 obtain ⟨cs,h9,h10⟩ := h9
 have h5 := hx.at hl (fun x hx => by simp [Op.operands,Call.operands,hx])
 have h6 : (execOp a.eval ⟨d,.call { callee := .value x,args := xs.toArray,argTypes := tys },ty,pos,after,gu⟩).run C.P w = .ok (.enter f (xs.map a.eval ++ cs).toArray) w := by
  simp [execOp,resolve,h9,Deferred.ofValue,invoke,oX h1 h2 h3]
 unfold Oper.wp
 rw [h6]
 refine Calls.mono (callE_post hf ns hn hb hd hin hnb ha hH hfree (by rw [vE];exact Rs_append h5 h10)) ?_
 rintro e w' ⟨v,μ',ρ',rfl,h⟩
 exact ⟨v,μ',ρ',rfl,h⟩
theorem oN {f : FuncId} {caps : List Go.Operand} {l : List SV} (hx : EvsS σ (fun i => i) caps l) : OpN C ⟨d,.makeFunc (.func f) #[] caps.toArray,ty,pos,after,gu⟩ σ (.fn f l) := OpN.pure fun ρ μ a w hl ha => by
 have h := hx.at hl (fun x hx => by simp [Op.operands,hx])
 rw [SV.rns_id] at h
 exact ⟨.func (.func f) #[] (caps.map a.eval).toArray,by simp [execOp,Instr.makeFunc],by unfold SV.R;exact ⟨_,rfl,h⟩⟩
end
def SV.named : SV → Bool
 | .im _ => false
 | _ => true
def envS : Nat → List SV → List Value → Env
 | i,s :: l,v :: vs => (match s.named with
  | true => (i,.is v s)
  | false => (i,s)) :: envS (i + 1) l vs
 | _,_,_ => []
theorem envS_at {ρ : Nms} {μ : Mem} : ∀ {l : List SV} {vs : List Value} {i t : Nat} {s : SV},SV.Rs ρ μ l vs → lk (envS i l vs) t = some s → ∃ j v,t = i + j ∧ vs[j]? = some v ∧ SV.R ρ μ s v
 | [],_,i,t,s,_,h => by simp [envS,lk] at h
 | s0 :: l,vs,i,t,s,hr,h => by
  unfold SV.Rs at hr
  obtain ⟨v,vs',rfl,h1,h2⟩ := hr
  have key : ∀ s1,SV.R ρ μ s1 v → lk ((i,s1) :: envS (i + 1) l vs') t = some s → ∃ j u,t = i + j ∧ (v :: vs')[j]? = some u ∧ SV.R ρ μ s u := fun s1 hs1 h => by
   simp only [lk] at h
   cases hb : Nat.beq i t with
   | true => rw [hb] at h;injection h with h;subst h;exact ⟨0,v,by rw [← Nat.eq_of_beq_eq_true hb];rfl,rfl,hs1⟩
   | false =>
    rw [hb] at h
    obtain ⟨j,u,h3,h4,h5⟩ := envS_at h2 h
    exact ⟨j + 1,u,by omega,by simpa using h4,h5⟩
  unfold envS at h
  cases hn : s0.named with
  | true => rw [hn] at h;exact key _ (by unfold SV.R;exact ⟨rfl,h1⟩) h
  | false => rw [hn] at h;exact key _ h1 h
mutual
def SV.pinS (i : Nat) : SV → Bool
 | .im _ => false
 | .off _ _ => false
 | .sl _ _ => false
 | .row j _ => Nat.beq i j
 | .agg l => SV.pinSs i l
 | .cnd _ _ => false
 | .fn _ l => SV.pinSs i l
 | .is _ s => SV.pinS i s
 | .hd j => Nat.beq i j
 | .pk _ l => SV.pinSs i l
 | .tup _ => false
 | .pp l => SV.pinSs i l
def SV.pinSs (i : Nat) : List SV → Bool
 | [] => false
 | s :: l => SV.pinS i s || SV.pinSs i l
end
mutual
def SV.pinW (i : Nat) : SV → Bool
 | .im _ => false
 | .off j _ => Nat.beq i j
 | .row _ _ => false
 | .sl _ _ => false
 | .agg l => SV.pinWs i l
 | .cnd _ _ => false
 | .fn _ l => SV.pinWs i l
 | .is _ s => SV.pinW i s
 | .hd _ => false
 | .pk _ l => SV.pinWs i l
 | .tup _ => false
 | .pp l => SV.pinWs i l
def SV.pinWs (i : Nat) : List SV → Bool
 | [] => false
 | s :: l => SV.pinW i s || SV.pinWs i l
end
theorem toArray_inj' {a b : List Value} (h : a.toArray = b.toArray) : a = b := by simpa using h
mutual
theorem SV.pinS_at {i : Nat} {ρ ρ' : Nms} {μ μ' : Mem} (hm : Mem.le μ μ') : ∀ {s : SV} {v : Value},SV.pinS i s = true → SV.R ρ μ s v → SV.R ρ' μ' s v → ρ' i = ρ i
 | .im _,_,h,_,_ => by simp [SV.pinS] at h
 | .off _ _,_,h,_,_ => by simp [SV.pinS] at h
 | .sl _ _,_,h,_,_ => by simp [SV.pinS] at h
 | .row j n,v,h,a,b => by
  have := Nat.eq_of_beq_eq_true (by simpa only [SV.pinS] using h : Nat.beq i j = true)
  subst this
  unfold SV.R at a b
  rw [a.1,b.1]
 | .agg l,v,h,a,b => by
  unfold SV.R at a b
  obtain ⟨vs,rfl,a,_⟩ := a
  obtain ⟨vs',e,b,_⟩ := b
  injection e with e
  rw [← toArray_inj' e] at b
  exact SV.pinSs_at hm (by simpa only [SV.pinS] using h) a b
 | .cnd _ _,_,h,_,_ => by simp [SV.pinS] at h
 | .fn f l,v,h,a,b => by
  unfold SV.R at a b
  obtain ⟨vs,rfl,a⟩ := a
  obtain ⟨vs',e,b⟩ := b
  injection e with _ _ e
  rw [← toArray_inj' e] at b
  exact SV.pinSs_at hm (by simpa only [SV.pinS] using h) a b
 | .is u s,v,h,a,b => by
  unfold SV.R at a b
  exact SV.pinS_at hm (by simpa only [SV.pinS] using h) a.2 b.2
 | .hd j,v,h,a,b => by
  unfold SV.R at a b
  have : i = j := Nat.eq_of_beq_eq_true (by simpa only [SV.pinS] using h)
  subst this
  rw [a,b]
 | .pk n l,v,h,a,b => by
  unfold SV.R at a b
  obtain ⟨g,vs,rfl,a,a2,_⟩ := a
  obtain ⟨g',vs',e,b,b2,_⟩ := b
  injection e with e;injection e with e;injection e with e
  subst e
  have a' := hm _ _ a
  rw [b] at a'
  injection a' with a'
  rw [toArray_inj' a'] at b2
  exact SV.pinSs_at hm (by simpa only [SV.pinS] using h) a2 b2
 | .tup _,v,h,a,b => by simp [SV.pinS] at h
 | .pp l,v,h,a,b => by
  unfold SV.R at a b
  obtain ⟨g,o,us,rfl,a,a2,_⟩ := a
  obtain ⟨g',o',us',e,b,b2,_⟩ := b
  injection e with e;injection e with e;injection e with e e2
  subst e e2
  have a' := hm _ _ a
  rw [b] at a'
  injection a' with a'
  rw [toArray_inj' a'] at b2
  exact SV.pinSs_at hm (by simpa only [SV.pinS] using h) a2 b2
theorem SV.pinSs_at {i : Nat} {ρ ρ' : Nms} {μ μ' : Mem} (hm : Mem.le μ μ') : ∀ {l : List SV} {vs : List Value},SV.pinSs i l = true → SV.Rs ρ μ l vs → SV.Rs ρ' μ' l vs → ρ' i = ρ i
 | [],_,h,_,_ => by simp [SV.pinSs] at h
 | s :: l,vs,h,a,b => by
  unfold SV.Rs at a b
  obtain ⟨v,vs1,rfl,a1,a2⟩ := a
  obtain ⟨v',vs1',e,b1,b2⟩ := b
  injection e with e1 e2
  subst e1 e2
  simp only [SV.pinSs,Bool.or_eq_true] at h
  rcases h with h | h
  ·exact SV.pinS_at hm h a1 b1
  ·exact SV.pinSs_at hm h a2 b2
end
mutual
theorem SV.pinW_at {i : Nat} {ρ ρ' : Nms} {μ μ' : Mem} (hm : Mem.le μ μ') : ∀ {s : SV} {v : Value},SV.pinW i s = true → SV.R ρ μ s v → SV.R ρ' μ' s v → ∃ g,(ρ i).bind blk = some g ∧ (ρ' i).bind blk = some g
 | .im _,_,h,_,_ => by simp [SV.pinW] at h
 | .off j o,v,h,a,b => by
  have := Nat.eq_of_beq_eq_true (by simpa only [SV.pinW] using h : Nat.beq i j = true)
  subst this
  unfold SV.R at a b
  obtain ⟨g,a1,rfl⟩ := a
  obtain ⟨g',b1,e⟩ := b
  injection e with e;injection e with e;injection e with e
  subst e
  exact ⟨g,a1,b1⟩
 | .row _ _,_,h,_,_ => by simp [SV.pinW] at h
 | .sl _ _,_,h,_,_ => by simp [SV.pinW] at h
 | .agg l,v,h,a,b => by
  unfold SV.R at a b
  obtain ⟨vs,rfl,a,_⟩ := a
  obtain ⟨vs',e,b,_⟩ := b
  injection e with e
  rw [← toArray_inj' e] at b
  exact SV.pinWs_at hm (by simpa only [SV.pinW] using h) a b
 | .cnd _ _,_,h,_,_ => by simp [SV.pinW] at h
 | .fn f l,v,h,a,b => by
  unfold SV.R at a b
  obtain ⟨vs,rfl,a⟩ := a
  obtain ⟨vs',e,b⟩ := b
  injection e with _ _ e
  rw [← toArray_inj' e] at b
  exact SV.pinWs_at hm (by simpa only [SV.pinW] using h) a b
 | .is u s,v,h,a,b => by
  unfold SV.R at a b
  exact SV.pinW_at hm (by simpa only [SV.pinW] using h) a.2 b.2
 | .hd j,v,h,a,b => by simp [SV.pinW] at h
 | .pk n l,v,h,a,b => by
  unfold SV.R at a b
  obtain ⟨g,vs,rfl,a,a2,_⟩ := a
  obtain ⟨g',vs',e,b,b2,_⟩ := b
  injection e with e;injection e with e;injection e with e
  subst e
  have a' := hm _ _ a
  rw [b] at a'
  injection a' with a'
  rw [toArray_inj' a'] at b2
  exact SV.pinWs_at hm (by simpa only [SV.pinW] using h) a2 b2
 | .tup _,v,h,a,b => by simp [SV.pinW] at h
 | .pp l,v,h,a,b => by
  unfold SV.R at a b
  obtain ⟨g,o,us,rfl,a,a2,_⟩ := a
  obtain ⟨g',o',us',e,b,b2,_⟩ := b
  injection e with e;injection e with e;injection e with e e2
  subst e e2
  have a' := hm _ _ a
  rw [b] at a'
  injection a' with a'
  rw [toArray_inj' a'] at b2
  exact SV.pinWs_at hm (by simpa only [SV.pinW] using h) a2 b2
theorem SV.pinWs_at {i : Nat} {ρ ρ' : Nms} {μ μ' : Mem} (hm : Mem.le μ μ') : ∀ {l : List SV} {vs : List Value},SV.pinWs i l = true → SV.Rs ρ μ l vs → SV.Rs ρ' μ' l vs → ∃ g,(ρ i).bind blk = some g ∧ (ρ' i).bind blk = some g
 | [],_,h,_,_ => by simp [SV.pinWs] at h
 | s :: l,vs,h,a,b => by
  unfold SV.Rs at a b
  obtain ⟨v,vs1,rfl,a1,a2⟩ := a
  obtain ⟨v',vs1',e,b1,b2⟩ := b
  injection e with e1 e2
  subst e1 e2
  simp only [SV.pinWs,Bool.or_eq_true] at h
  rcases h with h | h
  ·exact SV.pinW_at hm h a1 b1
  ·exact SV.pinWs_at hm h a2 b2
end
def isBlk (H : List Ent) (i : Nat) : Bool := match hget H i with
 | some (.blk _ _) => true
 | _ => false
theorem qY {H : List Ent} {i : Nat} (h : isBlk H i = true) {ρ : Nms} {μ : Mem} {w : World} (hH : HeapOk ρ μ w H) : ∃ g,ρ i = some (.pointer (some ⟨g,0,none⟩)) := by
 unfold isBlk at h
 cases e : hget H i with
 | none => rw [e] at h;cases h
 | some o =>
  rw [e] at h
  cases o with
  | row => cases h
  | obj => cases h
  | nest => cases h
  | blk t cs =>
   obtain ⟨g,us,h1,_⟩ := hH.1 _ (om e)
   exact ⟨g,h1⟩
def pinOk (args : List SV) (H H' : List Ent) (pt : List (Nat × Nat)) : Bool := pt.all fun p => match args[p.2]? with
 | some s => SV.pinS p.1 s || (SV.pinW p.1 s && isBlk H p.1 && isBlk H' p.1)
 | none => false
inductive HSb (H : List Ent) : List Ent → Prop
 | nil : HSb H []
 | cons {i : Nat} {o : HObj} {H' : List Ent} (h : hget H i = some o) (t : HSb H H') : HSb H ((i,o) :: H')
theorem HSb.at {H H' : List Ent} (h : HSb H H') : ∀ e ∈ H',e ∈ H := by
 induction h with
 | nil => intro e he;cases he
 | cons h t ih =>
  intro e he
  rcases List.mem_cons.1 he with rfl | he
  ·exact om h
  ·exact ih e he
def RetOkE (C : Cfg) (F : Fx) (nt : Nat) (fn : Func) (args : List SV) (vs : List Value) (s : SV) (H' : List Ent) (pt : List (Nat × Nat)) (y : St) : Prop := ∀ μ ρ a w,Inv F nt y μ ρ a w → ∃ v,(results fn a.tmps).run C.P w = .ok v w ∧ SV.R ρ μ s v ∧ (∀ e ∈ H',e ∈ y.H) ∧ ∀ p ∈ pt,∃ s v,args[p.2]? = some s ∧ vs[p.2]? = some v ∧ SV.R ρ μ s v
def FnEQ (C : Cfg) (F : Fx) (nt : Nat) (fn : Func) (args : List SV) (vs : List Value) (s : SV) (H' : List Ent) (pt : List (Nat × Nat)) : Exit → St → Prop
 | .normal,y => RetOkE C F nt fn args vs s H' pt y
 | .ret,y => RetOkE C F nt fn args vs s H' pt y
 | _,_ => False
theorem FnE.of_wp {C : Cfg} {f : FuncId} {fn : Func} {c : Code} {fr fr' : Nat} {args : List SV} {H H' : List Ent} {s : SV} {pn : List Nat} (nt : Nat) (pt : List (Nat × Nat)) (hf : C.P.funcs[f]? = some fn) (hb : fn.body = some c) (hname : (fn.name == "runtime.NumGoroutine") = false) (hnt : fn.ntmps = nt) (hn : Nat.ble args.length nt = true)
 (h1 : SV.nms (ltB fr) args = true) (h2 : Go.Proofs.YtjgmbgfcffnanaaGreatDoor.hOk (ltB fr) H = true) (h3 : SV.nm (pnB pn fr fr') s = true) (h4 : Go.Proofs.YtjgmbgfcffnanaaGreatDoor.hOk (pnB pn fr fr') H' = true) (h5 : pn.all (ltB fr) = true) (h6 : Nat.ble fr fr' = true) (h7 : pinOk args H H' pt = true) (h8 : pn = pt.map (·.1))
 (h : ∀ (F : Fx) (vs : List Value),F.D = [] → vs.length = args.length → WP C F nt c (FnEQ C F nt fn args vs s H' pt) ⟨envS 0 args vs,H,fr⟩) : FnE C f fr args H s H' fr' pn := by
 refine ⟨⟨fn,hf,by rw [hb];rfl,hname⟩,h1,h2,h3,h4,h5,h6,fun ρ μ w vs hvs ha hH hnm => ?_⟩
 have hlen := hvs.length
 refine calls_of_wp hf hb ((wpIn_wide (n := 9)).1 ?_)
 have hle := Nat.le_of_ble_eq_true hn
 have hi : Inv ⟨w,μ,fun g => ∃ e ∈ H,eb ρ e g,[],none⟩ nt ⟨envS 0 args vs,H,fr⟩ μ ρ { tmps := vs.toArray ++ Array.replicate (fn.ntmps - vs.toArray.size) undef,defers := [] } w := by
  refine ⟨by simp;omega,rfl,fun t s hs => ?_,ha,hH,hnm,rfl,rfl,rfl,Nat.le_refl _,fun _ _ _ => rfl,Mem.le.refl _,fun b hb => .inl hb,fun e he g hg => .inl ⟨e,he,hg⟩⟩
  obtain ⟨j,v,k1,k2,k3⟩ := envS_at hvs hs
  rw [Nat.zero_add] at k1
  subst k1
  have hj : t < vs.length := (List.getElem?_eq_some_iff.1 k2).1
  have : (vs.toArray ++ Array.replicate (fn.ntmps - vs.toArray.size) undef).getD t undef = v := by
   rw [Array.getD_eq_getD_getElem?,Array.getElem?_append_left (by simpa using hj)]
   simp [k2]
  rw [this];exact k3
 refine wpIn_mono (h ⟨w,μ,fun g => ∃ e ∈ H,eb ρ e g,[],none⟩ vs rfl hlen μ ρ _ w hi) ?_
 rintro e a' w' ⟨y,μ',ρ',hq,hy⟩
 have key : RetOkE C ⟨w,μ,fun g => ∃ e ∈ H,eb ρ e g,[],none⟩ nt fn args vs s H' pt y → a'.defers = [] ∧ ∃ v,(results fn a'.tmps).run C.P w' = .ok v w' ∧ ∃ v_1 μ' ρ',Ending.returned v = .returned v_1 ∧ SV.R ρ' μ' s v_1 ∧ HeapOk ρ' μ' w' H' ∧ (∀ i ∈ pn,ρ' i = ρ i) ∧ EStp ρ H μ w ρ' H' μ' w' := fun hr => by
  obtain ⟨v,k1,k2,k3,k4⟩ := hr μ' ρ' a' w' hy
  refine ⟨hy.defers,v,k1,v,μ',ρ',rfl,k2,hy.heap.sub k3,fun i hi => ?_,⟨hy.os,hy.tape,hy.output,hy.hsize,fun k hk hno => hy.block k hk (fun ⟨e,he,hg⟩ => hno e he hg),hy.le,hy.new,hy.agr,fun e he g hg => hy.own e (k3 e he) g hg⟩⟩
  rw [h8,List.mem_map] at hi
  obtain ⟨p,hp,rfl⟩ := hi
  have k5 := List.all_eq_true.1 h7 p hp
  obtain ⟨s1,v1,k6,k7,k8⟩ := k4 p hp
  simp only [k6,Bool.or_eq_true,Bool.and_eq_true] at k5
  obtain ⟨v1',k7',k9⟩ := hvs.get k6
  rw [k7] at k7'
  injection k7' with k7'
  subst k7'
  rcases k5 with k5 | ⟨⟨k5,k6⟩,k7⟩
  ·exact SV.pinS_at hy.le k5 k9 k8
  ·obtain ⟨g,k8,k9⟩ := SV.pinW_at hy.le k5 k9 k8
   obtain ⟨g1,k10⟩ := qY k6 hH
   obtain ⟨g2,k11⟩ := qY k7 (hy.heap.sub k3)
   rw [k10] at k8
   rw [k11] at k9
   simp only [Option.bind_some,blk,Option.some.injEq] at k8 k9
   rw [k10,k11,k8,k9]
 cases e with
 | normal => exact key hq
 | ret => exact key hq
 | _ => exact hq.elim
section
variable {C : Cfg} {F : Fx} {nt : Nat} {fn : Func} {y : St} {args : List SV} {vs : List Value} {H' : List Ent}
inductive Kept (args : List SV) (vs : List Value) (y : St) : List (Nat × Nat) → Prop
 | nil : Kept args vs y []
 | cons {i t : Nat} {s : SV} {v : Value} {pt : List (Nat × Nat)} (h1 : args[t]? = some s) (h2 : vs[t]? = some v) (h : lk y.σ t = some (.is v s)) (k : Kept args vs y pt) : Kept args vs y ((i,t) :: pt)
theorem Kept.at {pt : List (Nat × Nat)} (h : Kept args vs y pt) {μ : Mem} {ρ : Nms} {a : Act} {w : World} (hi : Inv F nt y μ ρ a w) : ∀ p ∈ pt,∃ s v,args[p.2]? = some s ∧ vs[p.2]? = some v ∧ SV.R ρ μ s v := by
 induction h with
 | nil => intro p hp;cases hp
 | @cons i t s v pt h1 h2 h k ih =>
  intro p hp
  rcases List.mem_cons.1 hp with rfl | hp
  ·have h3 := hi.env t _ h
   unfold SV.R at h3
   exact ⟨s,v,h1,h2,by rw [← h3.1];exact h3.2⟩
  ·exact ih p hp
theorem RetOkE.one {r : ResultVar} {s : IV} {pt : List (Nat × Nat)} (hr : fn.results = #[r]) (h : ResV C y r s) (hH : HSb y.H H') (hk : Kept args vs y pt) : RetOkE C F nt fn args vs (.im s) H' pt y := fun μ ρ a w hi => by
 obtain ⟨v,h1,h2⟩ := h.run hi
 refine ⟨v,?_,oi.2 h2,hH.at,hk.at hi⟩
 rw [yf (rs := [r]) (vs := [v]) hr (by simp [h1])]
 rfl
theorem RetOkE.sv {t : Nat} {s : SV} {pt : List (Nat × Nat)} (hr : fn.results = #[.tmp t]) (h : lk y.σ t = some s) (hH : HSb y.H H') (hk : Kept args vs y pt) : RetOkE C F nt fn args vs s H' pt y := fun μ ρ a w hi => by
 refine ⟨a.tmps.getD t undef,?_,hi.env t s h,hH.at,hk.at hi⟩
 rw [yf (rs := [.tmp t]) (vs := [a.tmps.getD t undef]) hr (by simp [resOf])]
 rfl
theorem RetOkE.none {pt : List (Nat × Nat)} (hr : fn.results = #[]) (hH : HSb y.H H') (hk : Kept args vs y pt) : RetOkE C F nt fn args vs (.im (IV.tup [])) H' pt y := fun μ ρ a w hi => by
 refine ⟨.tuple #[],?_,oi.2 ⟨[],rfl,rfl⟩,hH.at,hk.at hi⟩
 rw [yf (rs := []) (vs := []) hr (by simp)]
 rfl
theorem RetOkE.tup {rs : List ResultVar} {ss : List IV} {pt : List (Nat × Nat)} (hr : fn.results = rs.toArray) (hl : Nat.beq rs.length 1 = false) (h : ResVs C y rs ss) (hH : HSb y.H H') (hk : Kept args vs y pt) : RetOkE C F nt fn args vs (.im (IV.tup ss)) H' pt y := fun μ ρ a w hi => by
 obtain ⟨us,h1,h2⟩ := h.run hi
 refine ⟨.tuple us.toArray,?_,oi.2 ⟨us,rfl,h2⟩,hH.at,hk.at hi⟩
 rw [yf hr h1]
 have h3 : us.length = rs.length := by
  have h4 := h2.length
  have : ∀ {rs : List ResultVar} {ss : List IV},ResVs C y rs ss → rs.length = ss.length := by
   intro rs ss h
   induction h with
   | nil => rfl
   | cons _ _ ih => simp [ih]
  rw [h4,this h]
 rw [dif_neg]
 have := Nat.ne_of_beq_eq_false hl
 simpa [h3] using this
end
section
variable {C : Cfg} {σ : Env} {H : List Ent} {fr : Nat} {d : Option Tmp} {ty : TypeId} {pos : String} {after : Array Edge} {gu : Option (Nat × Bool)}
theorem uu {α : Type} {t et : TypeId} {de : TyInf} {k : Nat} (enc : α → List IV) (hT : slT C t = some (et,de)) (hk : de.size = k) (hkk : ∀ a,(enc a).length = k) : OpA C ⟨d,.buildSlice t 0 #[],ty,pos,after,gu⟩ σ fr (.row fr 0) (.row et k enc []) := OpA.of rfl fun ρ μ a w hl ha hf => by
 obtain ⟨hu,hTe⟩ := jd hT
 subst hk
 have hrun : (execOp a.eval ⟨d,.buildSlice t 0 #[],ty,pos,after,gu⟩).run C.P w = .ok (.value (.slice (some ⟨w.heap.size,0,none⟩) 0 0)) (w.alloc (.cells #[] et)) := by
  simp only [execOp,Instr.buildSlice,Sem.run_bind,run_underlying hu,Result.andThen_ok,hTe.size w]
  rw [if_neg (by omega)]
  have hr0 : (Array.range 0 : Array Nat) = #[] := by simp
  simp [newRow,newObj,hr0,Instr.fill]
  simp [Sem.run]
 have hs := Stp.alloc (μ := μ) ha (.cells #[] et)
 have hno : μ w.heap.size = none := by
  cases e : μ w.heap.size with
  | none => rfl
  | some c => exact absurd (ha.lt (b := w.heap.size) (by rw [e];simp)) (Nat.lt_irrefl _)
 unfold Oper.wp
 rw [hrun]
 refine ⟨_,μ,rfl,?_,⟨_,[],oY _ _ _,⟨by simp,.inr ⟨w.heap.size,0,#[],rfl,Nat.zero_le _,heap_alloc_new w _,Nat.le_refl _,by simp [maxLen],by simp,by simp⟩⟩,rfl,hkk,fun g hg => ?_,fun u hu => by cases hu⟩,fun g hg => ?_,hs⟩
 ·unfold SV.R;exact ⟨oY _ _ _,_,0,rfl,.inl rfl⟩
 ·simp only [Value.ownBlock,Option.some.injEq] at hg;subst hg;exact hno
 ·simp only [blk,Option.some.injEq] at hg;omega
theorem u5 {c x y : Go.Operand} {b b' : Bool} (hc : Ev σ c (.im (IV.bool b))) (hx : Ev σ x (.im (IV.bool b'))) (hy : Ev σ y (.im (IV.bool false))) : OpN C ⟨d,.pick c x y,ty,pos,after,gu⟩ σ (.im (IV.bool (b && b'))) := OpN.pure fun ρ μ a w hl ha => by
 have h1 := hc.val hl (by simp [Op.operands])
 have h2 := hx.val hl (by simp [Op.operands])
 have h3 := hy.val hl (by simp [Op.operands])
 refine ⟨_,by simp [execOp,h1,asBool];rfl,oi.2 ?_⟩
 cases b with
 | true => exact h2
 | false => exact h3
theorem opn_pick_orP {c x y : Go.Operand} {b b' : Bool} (hc : Ev σ c (.im (IV.bool b))) (hx : Ev σ x (.im (IV.bool true))) (hy : Ev σ y (.im (IV.bool b'))) : OpN C ⟨d,.pick c x y,ty,pos,after,gu⟩ σ (.im (IV.bool (b || b'))) := OpN.pure fun ρ μ a w hl ha => by
 have h1 := hc.val hl (by simp [Op.operands])
 have h2 := hx.val hl (by simp [Op.operands])
 have h3 := hy.val hl (by simp [Op.operands])
 refine ⟨_,by simp [execOp,h1,asBool];rfl,oi.2 ?_⟩
 cases b with
 | true => exact h2
 | false => exact h3
theorem opn_conv {src dst : TypeId} {x : Go.Operand} {q k : IntKind} {n m : Int} (hs : (C.P.underlying src).isSome = true) (hd : C.P.underlying dst = some (.int (C.P.intKind dst))) (hk : C.P.intKind dst = k) (hm : k.wrap n = m) (hx : Ev σ x (.im (IV.val (.int q n)))) : OpN C ⟨d,.convert src dst x,ty,pos,after,gu⟩ σ (.im (IV.val (.int k m))) := OpN.pure fun ρ μ a w hl ha => by
 have h1 := hx.val hl (by simp [Op.operands])
 refine ⟨_,?_,oi.2 rfl⟩
 simp only [execOp,h1,Sem.run_bind,run_convert_int w src dst q n hs hd,Result.andThen_ok,Sem.run_pure,hk,hm]
theorem yU {c x y : Go.Operand} {s : SV} (hc : Ev σ c (.im (IV.bool false))) (hy : Ev σ y s) : OpN C ⟨d,.pick c x y,ty,pos,after,gu⟩ σ s := OpN.pure fun ρ μ a w hl ha => by
 have h1 := hc.val hl (by simp [Op.operands])
 have h3 := hy.at hl (by simp [Op.operands])
 exact ⟨a.eval y,by simp [execOp,h1,asBool],h3⟩
theorem OpE.frz {α : Type} {o : Oper} {i n t k fr' : Nat} {enc : α → List IV} {xs : List α} {H1 : List Ent} (h : OpE C o σ H fr (.row i n) H1 fr') (hh : hget H1 i = some (.row t k enc xs)) : OpE C o σ H fr (.im (IV.view k enc xs)) (hdel H1 i) fr' := fun ρ μ a w hl ha hH hfree => by
 refine Oper.wp_mono ?_ (h ρ μ a w hl ha hH hfree)
 rintro a' w' ⟨v,μ',ρ',rfl,h1,h2,h3,h4,h5⟩
 unfold SV.R at h1
 have hm := om hh
 have hent := h2.1 _ hm
 rcases row_view hent with ⟨u,k1,k2,k3⟩ | ⟨u,g,cs,k1,k2,k3,k4⟩
 ·rw [h1.1] at k1
  injection k1 with k1
  subst k1
  exact ⟨v,μ',ρ',rfl,oi.2 (k3 μ'),h2.sub fun e he => (ov he).1,h3,h4,⟨h5.os,h5.tape,h5.output,h5.size,h5.block,h5.le,h5.new,h5.agr,fun e he => h5.own e (ov he).1⟩⟩
 ·rw [h1.1] at k1
  injection k1 with k1
  subst k1
  have h0 := (hent.lt k2).2
  have hle : Mem.le μ' (μ'.add g cs) := fun b c hb => by
   unfold Mem.add
   by_cases e : b = g
   ·subst e;rw [h0] at hb;cases hb
   ·rw [if_neg e];exact hb
  refine ⟨v,μ'.add g cs,ρ',rfl,oi.2 (k4 hle),⟨fun e he => ?_,fun e he e' he' => h2.2 e (ov he).1 e' (ov he').1⟩,h3,h4,⟨h5.os,h5.tape,h5.output,h5.size,h5.block,h5.le.trans hle,fun b hb => ?_,fun b c hb => ?_,fun e he => h5.own e (ov he).1⟩⟩
  ·obtain ⟨q1,q2⟩ := ov he
   refine (h2.1 e q1).keep (Nms.le.refl _) hle fun b hb => ⟨rfl,?_⟩
   unfold Mem.add
   rw [if_neg (fun e2 => h2.2 _ hm e q1 (fun e3 => q2 e3.symm) g k2 (by rw [← e2];exact hb))]
   exact ((h2.1 e q1).lt hb).2
  ·unfold Mem.add at hb
   by_cases e : b = g
   ·subst e
    rcases h5.own _ hm b k2 with q | q
    ·exact .inr (.inr q)
    ·exact .inr (.inl q)
   ·rw [if_neg e] at hb;exact h5.new b hb
  ·unfold Mem.add at hb
   by_cases e : b = g
   ·rw [if_pos e] at hb;injection hb with hb;subst hb;subst e;exact ⟨t,(0,0),k3⟩
   ·rw [if_neg e] at hb;exact h5.agr b c hb
theorem EvsS.im {f : Nat → Nat} {x : Go.Operand} {s : IV} {xs : List Go.Operand} {l : List SV} (h : Ev σ x (.im s)) (t : EvsS σ f xs l) : EvsS σ f (x :: xs) (.im s :: l) := .cons h t
theorem EvsS.row {f : Nat → Nat} {x : Go.Operand} {i j n : Nat} {xs : List Go.Operand} {l : List SV} (h : Ev σ x (.row j n)) (hf : f i = j) (t : EvsS σ f xs l) : EvsS σ f (x :: xs) (.row i n :: l) := .cons (by simp only [SV.rn];rw [hf];exact h) t
theorem EvsS.off {f : Nat → Nat} {x : Go.Operand} {i j n : Nat} {xs : List Go.Operand} {l : List SV} (h : Ev σ x (.off j n)) (hf : f i = j) (t : EvsS σ f xs l) : EvsS σ f (x :: xs) (.off i n :: l) := .cons (by simp only [SV.rn];rw [hf];exact h) t
end
section
variable {F : Fx} {nt : Nat} {x : St} {σ σ' : Env} {H H' : List Ent} {fr fr' : Nat}
theorem Shift.row0In {α : Type} (p j et k : Nat) (enc : α → List IV) (hk : ∀ x,(enc x).length = k) {bt : TypeId} {cs : List SV} (hp : hget H p = some (.blk bt cs)) (hj : cs[j]? = some (.im (IV.val (.slice none 0 0)))) (_ : Nat.beq fr p = false) :
 Shift F nt ⟨σ,H,fr⟩ ⟨σ,hset ((fr,.row et k enc []) :: H) p (.blk bt (cs.set j (.row fr 0))),fr + 1⟩ := fun μ ρ a w hi => by
 have h2 := hi.new1 (v := .slice none 0 0) (ob := .row et k enc []) (Stp.refl hi.agr) ⟨_,[],oY _ _ _,World.ownsRow_nil _ _ _ _,rfl,hk,⟨(fun g hg => by cases hg),(fun u hu => by cases hu)⟩⟩ (fun g hg => by cases hg)
 have hm : (p,HObj.blk bt cs) ∈ (fr,HObj.row et k enc []) :: H := List.mem_cons_of_mem _ (om hp)
 have h3 : EntOk (upd ρ fr (.slice none 0 0)) μ w (p,.blk bt (cs.set j (.row fr 0))) := by
  obtain ⟨g,us,k1,k2,k3,k4,k5⟩ := h2.heap.1 _ hm
  refine ⟨g,us,k1,k2,?_,k4,k5⟩
  obtain ⟨v,k6,k7⟩ := k3.get hj
  have k7 : v = .slice none 0 0 := oi.1 k7
  subst k7
  have k8 := k3.set (s := .row fr 0) (v := .slice none 0 0) (by unfold SV.R;exact ⟨oY _ _ _,none,0,rfl,.inl rfl⟩) j
  have : us.toList.set j (.slice none 0 0) = us.toList := by
   apply List.ext_getElem?
   intro q
   rw [List.getElem?_set]
   split
   ·rename_i e;subst e;split
    ·rw [k6]
    ·rename_i hlt;rw [List.getElem?_eq_none (by omega)]
   ·rfl
  rwa [this] at k8
 obtain ⟨h4,_⟩ := um h2.heap h2.agr hm (gt := none) ⟨rfl,rfl,rfl,Nat.le_refl _,fun _ _ _ => rfl⟩ (fun _ h => by cases h) h3 rfl
 refine ⟨μ,_,h2.size,h2.defers,h2.env,h2.agr,h4,h2.nms,h2.os,h2.tape,h2.output,h2.hsize,h2.block,h2.le,h2.new,fun e he g hg => ?_⟩
 rcases uK he with rfl | ⟨h5,_⟩
 ·exact h2.own _ hm g hg
 ·exact h2.own e h5 g hg
end
theorem len1 {α : Type} {l : List α} (h : l.length = 1) : ∃ a,l = [a] := by
 match l,h with
 | [a],_ => exact ⟨a,rfl⟩
theorem len2 {α : Type} {l : List α} (h : l.length = 2) : ∃ a b,l = [a,b] := by
 match l,h with
 | [a,b],_ => exact ⟨a,b,rfl⟩
theorem len3 {α : Type} {l : List α} (h : l.length = 3) : ∃ a b c,l = [a,b,c] := by
 match l,h with
 | [a,b,c],_ => exact ⟨a,b,c,rfl⟩
theorem len4 {α : Type} {l : List α} (h : l.length = 4) : ∃ a b c d,l = [a,b,c,d] := by
 match l,h with
 | [a,b,c,d],_ => exact ⟨a,b,c,d,rfl⟩
section
variable {C : Cfg} {σ : Env} {H : List Ent} {fr : Nat} {d : Option Tmp} {ty : TypeId} {pos : String} {after : Array Edge} {gu : Option (Nat × Bool)}
theorem ja {x : Go.Operand} {i o : Nat} (hx : Ev σ x (.off i o)) : OpN C ⟨d,.nilCheck x,ty,pos,after,gu⟩ σ (.off i o) := OpN.pure fun ρ μ a w hl ha => by
 have h0 := hx.at hl (by simp [Op.operands])
 have h1 := h0
 unfold SV.R at h0
 obtain ⟨g,_,h2⟩ := h0
 refine ⟨a.eval x,?_,h1⟩
 rw [h2]
 simp [execOp,h2]
theorem yO {x : Go.Operand} {l : List IV} (hx : Ev σ x (.im (IV.ptr l))) : OpN C ⟨d,.nilCheck x,ty,pos,after,gu⟩ σ (.im (IV.ptr l)) := OpN.pure fun ρ μ a w hl ha => by
 have h1 := hx.im hl (by simp [Op.operands])
 obtain ⟨b,o,h2,h3⟩ := h1
 refine ⟨a.eval x,?_,oi.2 ⟨b,o,h2,h3⟩⟩
 rw [h2]
 simp [execOp,h2]
def arE (C : Cfg) (t : TypeId) : Option (Nat × Nat) := match C.tt t with
 | some dt => match dt.und with
  | .array n e => match C.tt e with
   | some de => some (n,de.size)
   | none => none
  | _ => none
 | none => none
theorem arE_at {t : TypeId} {n k : Nat} (h : arE C t = some (n,k)) : ∃ e de,C.P.underlying t = some (.array n e) ∧ TyIs C.P e de ∧ de.size = k := by
 unfold arE at h
 cases h1 : C.tt t with
 | none => simp [h1] at h
 | some dt =>
  simp only [h1] at h
  have ht := C.ok _ _ h1
  cases h2 : dt.und with
  | array m e =>
   simp only [h2] at h
   cases h3 : C.tt e with
   | none => simp [h3] at h
   | some de =>
    simp only [h3,Option.some.injEq,Prod.mk.injEq] at h
    obtain ⟨rfl,rfl⟩ := h
    exact ⟨e,de,by rw [ht.1,h2],C.ok _ _ h3,rfl⟩
  | _ => simp [h2] at h
theorem run_indexArr {t : TypeId} {n k : Nat} (h : arE C t = some (n,k)) (w : World) (b o : Nat) (i : Int) (kd : IntKind) (h0 : 0 ≤ i) (h1 : i < n) :
 (Instr.indexAt t (.pointer (some ⟨b,o,none⟩)) (.int kd i)).run C.P w = .ok (.pointer (some ⟨b,o + i.toNat * k,none⟩)) w := by
 obtain ⟨e,de,h2,h3,rfl⟩ := arE_at h
 have h8 : (⟨b,o,none⟩ : Addr).add (i.toNat * de.size) = ⟨b,o + i.toNat * de.size,none⟩ := by by_cases h0 : i.toNat * de.size = 0 <;> simp [Addr.add,h0]
 simp [Instr.indexAt,Instr.sureAddr,asIntOf,Sem.run_bind,run_underlying h2,h0,h1,h3.size w,h8]
theorem oS {t : TypeId} {x ix : Go.Operand} {n k : Nat} {l : List IV} {i : Int} (hk : arE C t = some (n,k)) (hx : Ev σ x (.im (IV.ptr l))) (hi : Ev σ ix (.im (IV.int i))) (h0 : 0 ≤ i) (h1 : i < n) :
 OpN C ⟨d,.indexAddr t x ix,ty,pos,after,gu⟩ σ (.im (IV.ptr (l.drop (i.toNat * k)))) := OpN.pure fun ρ μ a w hl ha => by
 have h2 := hx.im hl (by simp [Op.operands])
 obtain ⟨b,o,h3,h4⟩ := h2
 have h6 := hi.val hl (by simp [Op.operands])
 refine ⟨_,?_,oi.2 ⟨b,o + i.toNat * k,rfl,h4.drop _⟩⟩
 simp only [execOp,Sem.run_bind,h3,h6,run_indexArr hk w b o i .i64 h0 h1,Result.andThen_ok,Sem.run_pure]
theorem yu {t : TypeId} {dt : TyInf} {n : Nat} {e : TypeId} {de : TyInf} {k : Nat} {ps : List (Nat × Go.Operand)} {out : List SV} (ht : C.tt t = some dt) (hu : dt.und = .array n e) (he : C.tt e = some de) (hk : de.size = k) (h1 : oneB dt.zero.cells.toList = true) (hp : Parts σ (fun i => some (i * k,k)) (zeroS dt.zero) ps out) :
 OpN C ⟨d,.build t ps.toArray,ty,pos,after,gu⟩ σ (.agg out) := OpN.pure fun ρ μ a w hl ha => by
 have hT := C.ok _ _ ht
 have hE := C.ok _ _ he
 subst hk
 have hev : ∀ p ∈ ps,∀ s,Ev σ p.2 s → SV.R ρ μ s (a.eval p.2) := fun p hp s hs => hs.at hl (by simp [Op.operands];exact ⟨p.1,hp⟩)
 obtain ⟨us,h4,h5,h6⟩ := hp.fill (ρ := ρ) (μ := μ) (a := a) hev (zeroS_R _) (qI h1)
 refine ⟨.agg us,?_,by unfold SV.R;exact ⟨us.toList,by simp,h5,h6⟩⟩
 have h8 := hT.und w
 rw [hu] at h8
 simp only [execOp,Instr.build,Sem.run_bind,hT.zero w,Result.andThen_ok,h8,hE.size w]
 simp [h4]
theorem uT {t : TypeId} {x : Go.Operand} {s : SV} {l : List SV} (hx : Ev σ x s) (hc : Cs s l) : OpA C ⟨d,.box t x,ty,pos,after,gu⟩ σ fr (.off fr 0) (.blk t l) := OpA.of rfl fun ρ μ a w hl ha hf => by
 obtain ⟨h1,h2⟩ := hc ρ μ _ (hx.at hl (by simp [Op.operands]))
 have hno : μ w.heap.size = none := by
  cases e : μ w.heap.size with
  | none => rfl
  | some c => exact absurd (ha.lt (b := w.heap.size) (by rw [e];simp)) (Nat.lt_irrefl _)
 have hrun : (execOp a.eval ⟨d,.box t x,ty,pos,after,gu⟩).run C.P w = .ok (.value (.pointer (some ⟨w.heap.size,0,none⟩))) (w.alloc (.cells (a.eval x).cells t)) := by
  simp only [execOp,Instr.box,Sem.run_bind,vu,Result.andThen_ok,Sem.run_pure]
 have hle : Nms.le ρ (upd ρ fr (.pointer (some ⟨w.heap.size,0,none⟩))) := vv hf
 unfold Oper.wp
 rw [hrun]
 refine ⟨_,μ,rfl,?_,⟨w.heap.size,_,oY _ _ _,heap_alloc_new w _,h1.mono hle (Mem.le.refl _),hno,h2⟩,fun g hg => ?_,Stp.alloc ha _⟩
 ·unfold SV.R;exact ⟨w.heap.size,by rw [oY];rfl,rfl⟩
 ·simp only [blk,Option.some.injEq] at hg;omega
theorem OpE.ofA {o : Oper} {s : SV} {ob : HObj} (h : OpA C o σ fr s ob) : OpE C o σ H fr s ((fr,ob) :: H) (fr + 1) := fun ρ μ a w hl ha hH hfree => by
 have h0 : ρ fr = none := hfree fr (Nat.le_refl _) (Nat.lt_succ_self _)
 refine Oper.wp_mono ?_ (h.2 ρ μ a w hl ha h0)
 rintro a' w' ⟨v,μ',rfl,h1,h2,h3,h4⟩
 have hle := vv (v := v) h0
 have heb : ∀ g,eb (upd ρ fr v) (fr,ob) g ↔ blk v = some g := fun g => (uq h.1).trans (by rw [oY];rfl)
 have hold : ∀ e ∈ H,eb (upd ρ fr v) e = eb ρ e := fun e he => eb_le hle (hH.1 e he).named
 have hH2 := (hH.stp h4).keep hle (Mem.le.refl _) (fun e he g hg => ⟨rfl,(((hH.stp h4).1 e he).lt hg).2⟩)
 have key : ∀ e ∈ H,∀ g,blk v = some g → ¬ eb (upd ρ fr v) e g := fun e hm g hg hg2 => by
  have h5 := h3 g hg
  rw [hold e hm] at hg2
  have h6 := ((hH.1 e hm).lt hg2).1
  omega
 refine ⟨v,μ',_,rfl,h1,⟨fun e he => ?_,fun e he e' he' hne g hg hg2 => ?_⟩,hle,fun i hi => ?_,⟨h4.below.os,h4.below.tape,h4.below.output,h4.below.size,fun k hk _ => h4.below.block k hk,h4.le,fun b hb => (h4.new b hb).imp id .inl,h4.agr,fun e he g hg => ?_⟩⟩
 ·rcases List.mem_cons.1 he with rfl | he
  ·exact h2
  ·exact hH2.1 e he
 ·rcases List.mem_cons.1 he with rfl | he
  ·rcases List.mem_cons.1 he' with rfl | he'
   ·exact hne rfl
   ·exact key e' he' g ((heb g).1 hg) hg2
  ·rcases List.mem_cons.1 he' with rfl | he'
   ·exact key e he g ((heb g).1 hg2) hg
   ·exact hH2.2 e he e' he' hne g hg hg2
 ·unfold upd at hi
  by_cases e : i = fr
  ·exact .inr ⟨by omega,by omega⟩
  ·rw [if_neg e] at hi;exact .inl hi
 ·rcases List.mem_cons.1 he with rfl | he
  ·exact .inr (h3 g ((heb g).1 hg))
  ·rw [hold e he] at hg;exact .inl ⟨e,he,hg⟩
end
def mem0 : Mem := fun _ => none
def FlatI (s : IV) : Prop := ∀ μ v,s.p μ v → s.p mem0 v
theorem mem0_agr (w : World) : Agr mem0 w := fun b c hb => by cases hb
theorem FlatI.val (u : Value) : FlatI (IV.val u) := fun _ _ h => h
theorem FlatI.ivs : ∀ {l : List IV},(∀ s ∈ l,FlatI s) → ∀ {μ : Mem} {vs : List Value},IVs μ l vs → IVs mem0 l vs
 | [],_,_,_,h => h
 | s :: _,hf,_,_,⟨v,vs,e,h1,h2⟩ => ⟨v,vs,e,hf s List.mem_cons_self _ _ h1,FlatI.ivs (fun s hs => hf s (List.mem_cons_of_mem _ hs)) h2⟩
def FnN (C : Cfg) (f : FuncId) (args : List IV) (s : IV) : Prop :=
 (∃ fn,C.P.funcs[f]? = some fn ∧ fn.body.isNone = false ∧ (fn.name == "runtime.NumGoroutine") = false) ∧
 ∀ μ w vs,IVs μ args vs → Agr μ w → Calls C.P f vs.toArray w fun e w' => ∃ v μ1,e = .returned v ∧ s.p μ1 v ∧ (∀ b,μ1 b ≠ none → w.heap.size ≤ b) ∧ Agr μ1 w' ∧ Below w.heap.size w w'
theorem FnN.of_flat {C : Cfg} {f : FuncId} {args : List IV} {s : IV} (h : Fn C f args s) (hf : FlatI s) : FnN C f args s := ⟨h.1,fun μ w vs hvs ha => (h.2 μ w vs hvs ha).mono fun _ _ ⟨v,_,e,h1,h2⟩ => ⟨v,mem0,e,hf _ _ h1,(fun _ hb => absurd rfl hb),mem0_agr _,h2.below⟩⟩
def Mem.or (μ μ1 : Mem) : Mem := fun b => match μ b with
 | some c => some c
 | none => μ1 b
theorem Mem.or_le (μ μ1 : Mem) : Mem.le μ (Mem.or μ μ1) := fun b c hb => by unfold Mem.or;rw [hb]
theorem stp_or {μ μ1 : Mem} {w w' : World} (ha : Agr μ w) (hn : ∀ b,μ1 b ≠ none → w.heap.size ≤ b) (h1 : Agr μ1 w') (hb : Below w.heap.size w w') : Stp μ w (Mem.or μ μ1) w' ∧ Mem.le μ1 (Mem.or μ μ1) := by
 refine ⟨⟨hb,Mem.or_le _ _,fun b hb2 => ?_,fun b c hb2 => ?_⟩,fun b c hb2 => ?_⟩
 ·unfold Mem.or at hb2
  cases e : μ b with
  | some c => exact .inl (by simp)
  | none => rw [e] at hb2;exact .inr (hn b hb2)
 ·unfold Mem.or at hb2
  cases e : μ b with
  | some c' =>
   rw [e] at hb2
   injection hb2 with hb2
   subst hb2
   obtain ⟨t,fz,hh⟩ := ha b _ e
   exact ⟨t,fz,(hb.block b (Array.getElem?_eq_some_iff.1 hh).1).trans hh⟩
  | none => rw [e] at hb2;exact h1 b c hb2
 ·unfold Mem.or
  cases e : μ b with
  | some c' =>
   have := ha.lt (b := b) (by rw [e];simp)
   have := hn b (by rw [hb2];simp)
   omega
  | none => exact hb2
theorem FnN.fn {C : Cfg} {f : FuncId} {args : List IV} {s : IV} (h : FnN C f args s) : Fn C f args s := ⟨h.1,fun μ w vs hvs ha => (h.2 μ w vs hvs ha).mono fun _ _ ⟨v,μ1,e,h1,h2,h3,h4⟩ => by
 obtain ⟨k1,k2⟩ := stp_or ha h2 h3 h4
 exact ⟨v,_,e,s.mono k2 h1,k1⟩⟩
theorem add_or_le {μ μ2 : Mem} {g : Nat} {cs : Array Value} (hle : Mem.le μ μ2) (hg : μ2 g = some cs) : Mem.le (μ.add g cs) μ2 := fun b c hb => by
 unfold Mem.add at hb
 by_cases e : b = g
 ·rw [if_pos e] at hb;injection hb with hb;subst hb;rw [e];exact hg
 ·rw [if_neg e] at hb;exact hle b c hb
theorem row_lend {α : Type} {ρ : Nms} {μ μ2 : Mem} {w : World} {i t k : Nat} {enc : α → List IV} {xs : List α} {v : Value} (h : EntOk ρ μ w (i,.row t k enc xs)) (hv : ρ i = some v) (hle : Mem.le μ μ2) (ha : Agr μ2 w) : ∃ μ3,Mem.le μ2 μ3 ∧ Agr μ3 w ∧ (IV.view k enc xs).p μ3 v ∧ ∀ b,μ3 b ≠ none → μ2 b ≠ none ∨ eb ρ (i,HObj.row t k enc xs) b := by
 rcases row_view h with ⟨u,k1,_,k3⟩ | ⟨u,g,cs,k1,k2,k3,k4⟩
 ·rw [hv] at k1
  injection k1 with k1
  subst k1
  exact ⟨μ2,Mem.le.refl _,ha,k3 μ2,fun b hb => .inl hb⟩
 ·rw [hv] at k1
  injection k1 with k1
  subst k1
  have h0 := (h.lt k2).2
  have hle1 : Mem.le μ (μ.add g cs) := fun b c hb => by
   unfold Mem.add
   by_cases e : b = g
   ·subst e;rw [h0] at hb;cases hb
   ·rw [if_neg e];exact hb
  cases e : μ2 g with
  | some c =>
   obtain ⟨t',fz,hh⟩ := ha g c e
   rw [k3] at hh
   injection hh with hh
   injection hh with hh
   subst hh
   exact ⟨μ2,Mem.le.refl _,ha,(IV.view k enc xs).mono (add_or_le hle e) (k4 hle1),fun b hb => .inl hb⟩
  | none =>
   have hle2 : Mem.le μ2 (μ2.add g cs) := fun b c hb => by
    unfold Mem.add
    by_cases e2 : b = g
    ·subst e2;rw [e] at hb;cases hb
    ·rw [if_neg e2];exact hb
   refine ⟨μ2.add g cs,hle2,fun b c hb => ?_,(IV.view k enc xs).mono (add_or_le (hle.trans hle2) (by unfold Mem.add;rw [if_pos rfl])) (k4 hle1),fun b hb => ?_⟩
   ·unfold Mem.add at hb
    by_cases e2 : b = g
    ·rw [if_pos e2] at hb;injection hb with hb;subst hb;subst e2;exact ⟨t,(0,0),k3⟩
    ·rw [if_neg e2] at hb;exact ha b c hb
   ·unfold Mem.add at hb
    by_cases e2 : b = g
    ·subst e2;exact .inr k2
    ·rw [if_neg e2] at hb;exact .inl hb
section
variable {C : Cfg} {F : Fx} {nt : Nat} {fn : Func} {y : St}
theorem ent_mem0 {α : Type} {ρ : Nms} {μ : Mem} {w : World} {i t k : Nat} {enc : α → List IV} {xs : List α} (hf : ∀ x,∀ s ∈ enc x,FlatI s) (h : EntOk ρ μ w (i,.row t k enc xs)) : EntOk ρ mem0 w (i,.row t k enc xs) := by
 obtain ⟨v,us,h1,h2,h3,h4,h5,h6⟩ := h
 exact ⟨v,us,h1,h2,FlatI.ivs (fun s hs => by obtain ⟨x,_,hx⟩ := List.mem_flatMap.1 hs;exact hf x s hx) h3,h4,fun g _ => rfl,h6⟩
def RetN (C : Cfg) (F : Fx) (nt : Nat) (fn : Func) (s : IV) (y : St) : Prop := ∀ μ ρ a w,Inv F nt y μ ρ a w → ∃ v μ1,(results fn a.tmps).run C.P w = .ok v w ∧ s.p μ1 v ∧ (∀ b,μ1 b ≠ none → F.w0.heap.size ≤ b) ∧ Agr μ1 w
def FnNQ (C : Cfg) (F : Fx) (nt : Nat) (fn : Func) (s : IV) : Exit → St → Prop
 | .normal,y => RetN C F nt fn s y
 | .ret,y => RetN C F nt fn s y
 | _,_ => False
theorem FnN.of_wp {C : Cfg} {f : FuncId} {fn : Func} {c : Code} {args : List IV} {s : IV} (nt : Nat) (hf : C.P.funcs[f]? = some fn) (hb : fn.body = some c) (hname : (fn.name == "runtime.NumGoroutine") = false) (hnt : fn.ntmps = nt) (hn : Nat.ble args.length nt = true)
 (h : ∀ F : Fx,F.D = [] → (∀ g,¬ F.G g) → WP C F nt c (FnNQ C F nt fn s) ⟨env0 0 args,[],0⟩) : FnN C f args s := by
 refine ⟨⟨fn,hf,by rw [hb];rfl,hname⟩,fun μ w vs hvs ha => ?_⟩
 have hlen := hvs.length
 refine calls_of_wp hf hb ((wpIn_wide (n := 9)).1 ?_)
 have hle := Nat.le_of_ble_eq_true hn
 have hi : Inv ⟨w,μ,fun _ => False,[],none⟩ nt ⟨env0 0 args,[],0⟩ μ (fun _ => none) { tmps := vs.toArray ++ Array.replicate (fn.ntmps - vs.toArray.size) undef,defers := [] } w := by
  refine ⟨by simp;omega,rfl,fun t s hs => ?_,ha,⟨(fun e he => by cases he),(fun e he => by cases he)⟩,fun i hi => absurd rfl hi,rfl,rfl,rfl,Nat.le_refl _,fun _ _ _ => rfl,Mem.le.refl _,fun b hb => .inl hb,(fun e he => by cases he)⟩
  obtain ⟨j,s',h1,h2,rfl⟩ := qr hs
  rw [Nat.zero_add] at h1
  subst h1
  obtain ⟨v,h3,h4⟩ := hvs.get h2
  have hj : t < vs.length := (List.getElem?_eq_some_iff.1 h3).1
  refine oi.2 ?_
  have : (vs.toArray ++ Array.replicate (fn.ntmps - vs.toArray.size) undef).getD t undef = v := by
   rw [Array.getD_eq_getD_getElem?,Array.getElem?_append_left (by simpa using hj)]
   simp [h3]
  rw [this];exact h4
 refine wpIn_mono (h ⟨w,μ,fun _ => False,[],none⟩ rfl (fun _ h => h) μ _ _ w hi) ?_
 rintro e a' w' ⟨y,μ',ρ',hq,hy⟩
 have key : RetN C ⟨w,μ,fun _ => False,[],none⟩ nt fn s y → a'.defers = [] ∧ ∃ v,(results fn a'.tmps).run C.P w' = .ok v w' ∧ ∃ v_1 μ1,Ending.returned v = .returned v_1 ∧ s.p μ1 v_1 ∧ (∀ b,μ1 b ≠ none → w.heap.size ≤ b) ∧ Agr μ1 w' ∧ Below w.heap.size w w' := fun hr => by
  obtain ⟨v,ν,h1,h2,h3,h4⟩ := hr μ' ρ' a' w' hy
  exact ⟨hy.defers,v,h1,v,ν,rfl,h2,h3,h4,⟨hy.os,hy.tape,hy.output,hy.hsize,fun k hk => hy.block k hk (fun h => h)⟩⟩
 cases e with
 | normal => exact key hq
 | ret => exact key hq
 | _ => exact hq.elim
end
def RetRow (_ : Cfg) (_ : Fx) (_ : Nat) (fn : Func) (et k : Nat) {α : Type} (enc : α → List IV) (xs : List α) (y : St) : Prop := ∃ t i n,fn.results = #[.tmp t] ∧ lk y.σ t = some (.row i n) ∧ hget y.H i = some (.row et k enc xs)
def FnRQ (C : Cfg) (F : Fx) (nt : Nat) (fn : Func) (et k : Nat) {α : Type} (enc : α → List IV) (xs : List α) : Exit → St → Prop
 | .normal,y => RetRow C F nt fn et k enc xs y
 | .ret,y => RetRow C F nt fn et k enc xs y
 | _,_ => False
theorem FnRow.of_wp {C : Cfg} {f : FuncId} {fn : Func} {c : Code} {args : List IV} {et k : Nat} {α : Type} {enc : α → List IV} {xs : List α} (nt : Nat) (hk : ∀ x,(enc x).length = k) (hf : C.P.funcs[f]? = some fn) (hb : fn.body = some c) (hname : (fn.name == "runtime.NumGoroutine") = false) (hnt : fn.ntmps = nt) (hn : Nat.ble args.length nt = true)
 (h : ∀ F : Fx,F.D = [] → (∀ g,¬ F.G g) → WP C F nt c (FnRQ C F nt fn et k enc xs) ⟨env0 0 args,[],0⟩) : FnRow C f args et k enc xs := by
 refine ⟨⟨⟨fn,hf,by rw [hb];rfl,hname⟩,hk⟩,fun μ w vs hvs ha => ?_⟩
 have hlen := hvs.length
 refine calls_of_wp hf hb ((wpIn_wide (n := 9)).1 ?_)
 have hle := Nat.le_of_ble_eq_true hn
 have hi : Inv ⟨w,μ,fun _ => False,[],none⟩ nt ⟨env0 0 args,[],0⟩ μ (fun _ => none) { tmps := vs.toArray ++ Array.replicate (fn.ntmps - vs.toArray.size) undef,defers := [] } w := by
  refine ⟨by simp;omega,rfl,fun t s hs => ?_,ha,⟨(fun e he => by cases he),(fun e he => by cases he)⟩,fun i hi => absurd rfl hi,rfl,rfl,rfl,Nat.le_refl _,fun _ _ _ => rfl,Mem.le.refl _,fun b hb => .inl hb,(fun e he => by cases he)⟩
  obtain ⟨j,s',h1,h2,rfl⟩ := qr hs
  rw [Nat.zero_add] at h1
  subst h1
  obtain ⟨v,h3,h4⟩ := hvs.get h2
  have hj : t < vs.length := (List.getElem?_eq_some_iff.1 h3).1
  refine oi.2 ?_
  have : (vs.toArray ++ Array.replicate (fn.ntmps - vs.toArray.size) undef).getD t undef = v := by
   rw [Array.getD_eq_getD_getElem?,Array.getElem?_append_left (by simpa using hj)]
   simp [h3]
  rw [this];exact h4
 refine wpIn_mono (h ⟨w,μ,fun _ => False,[],none⟩ rfl (fun _ h => h) μ _ _ w hi) ?_
 rintro e a' w' ⟨y,μ',ρ',hq,hy⟩
 have key : RetRow C ⟨w,μ,fun _ => False,[],none⟩ nt fn et k enc xs y → a'.defers = [] ∧ ∃ v,(results fn a'.tmps).run C.P w' = .ok v w' ∧ ∃ v_1 μ'' us,Ending.returned v = .returned v_1 ∧ w'.ownsRow w.heap.size et k v_1 xs.length us ∧ IvFlat μ'' enc xs us ∧ One us ∧ (∀ g,v_1.ownBlock = some g → μ'' g = none) ∧ Stp μ w μ'' w' := fun hr => by
  obtain ⟨t,i,n,h1,h2,h3⟩ := hr
  have h4 := hy.env _ _ h2
  unfold SV.R at h4
  have hm := om h3
  obtain ⟨v,us,e1,e2,e3,e4,e5,e6⟩ := hy.heap.1 _ hm
  rw [h4.1] at e1
  injection e1 with e1
  subst e1
  refine ⟨hy.defers,_,by rw [yf (rs := [.tmp t]) (vs := [a'.tmps.getD t undef]) h1 (by simp [resOf])];rfl,_,μ',us,rfl,⟨e2.1,e2.2.imp id fun ⟨g,cap,cur,q1,_,q3⟩ => ⟨g,cap,cur,q1,?_,q3⟩⟩,e3,e6,e5,⟨⟨hy.os,hy.tape,hy.output,hy.hsize,fun k hk => hy.block k hk (fun h => h)⟩,hy.le,fun b hb => (hy.new b hb).imp id (fun hx => hx.elim id (fun hf => hf.elim)),hy.agr⟩⟩
  refine (hy.own _ hm g (yh ?_)).resolve_left id
  rw [h4.1]
  simp only [Option.bind_some]
  rw [q1];rfl
 cases e with
 | normal => exact key hq
 | ret => exact key hq
 | _ => exact hq.elim
theorem FnN.of_row {C : Cfg} {f : FuncId} {args : List IV} {et k : Nat} {α : Type} {enc : α → List IV} {xs : List α} (h : FnRow C f args et k enc xs) (hf : ∀ x,∀ s ∈ enc x,FlatI s) : FnN C f args (IV.view k enc xs) := ⟨h.1.1,fun μ w vs hvs ha => (h.2 μ w vs hvs ha).mono fun _ w' ⟨v,μ',us,e,h1,h2,h3,h4,h5⟩ => by
 have hent : EntOk (fun _ => some v) μ' w' (0,.row et k enc xs) := ⟨v,us,rfl,⟨h1.1,h1.2.imp id fun ⟨g,cap,cur,q1,_,q3⟩ => ⟨g,cap,cur,q1,Nat.zero_le _,q3⟩⟩,h2,h.1.2,h4,h3⟩
 obtain ⟨μ3,k1,k2,k3,k4⟩ := row_lend (ent_mem0 hf hent) rfl (Mem.le.refl mem0) (fun b c hb => by cases hb)
 refine ⟨v,μ3,e,k3,fun b hb => ?_,k2,h5.below⟩
 rcases k4 b hb with h7 | h7
 ·exact absurd rfl h7
 ·have : blk v = some b := (uq rfl).1 h7
  rw [oh h1] at this
  exact (World.ownsRow.lt h1 b this).1⟩
section
theorem ILes.a {l l' : List IV} (h : ILes l l' := by repeat (first | exact ILes.nil | refine ILes.cons (by first | exact ILe.refl | exact ILe.view rfl | exact ILe.nil rfl) ?_)) : ILes l l' := h
theorem ImOf.a {s : SV} {i : IV} (h : ImOf s i := by first | exact ImOf.im ILe.refl | exact ImOf.agg rfl ILes.refl | exact ImOf.agg rfl ILes.a | exact ImOf.im (ILe.view rfl) | exact ImOf.im (ILe.nil rfl) | exact ImOf.im (ILe.int (by first | assumption | exact Eq.symm (by assumption) | omega)) | exact ImOf.im (ILe.bool (by first | assumption | exact Eq.symm (by assumption))) | exact ImOf.im (ILe.eq (by first | assumption | exact Eq.symm (by assumption)))) : ImOf s i := h
variable {σ : Env} {x y : Go.Operand}
theorem eB {s : SV} (h : ev σ x = some s) : Ev σ x s := .base h
theorem eC {b : Bool} {s : SV} (h : ev σ x = some (.cnd b s)) (hb : b = true) : Ev σ x s := .cnd h hb
theorem Ev.a {s : SV} (h : Ev σ x s := by first | exact Ev.base rfl | exact Ev.cnd rfl (by assumption) | exact Ev.of (Ev.base rfl) (ImOf.agg rfl ILes.refl) | exact Ev.of (Ev.base rfl) (ImOf.im (ILe.nil rfl)) | exact Ev.of (Ev.base rfl) (ImOf.im (ILe.view rfl)) | exact Ev.of (Ev.base rfl) (ImOf.agg rfl ILes.a) | exact Ev.of (Ev.cnd rfl (by assumption)) (ImOf.agg rfl ILes.refl) | exact Ev.of (Ev.cnd rfl (by assumption)) (ImOf.im (ILe.nil rfl)) | exact Ev.of (Ev.cnd rfl (by assumption)) (ImOf.im (ILe.view rfl)) | exact Ev.of (Ev.cnd rfl (by assumption)) (ImOf.agg rfl ILes.a) | exact Ev.is rfl) : Ev σ x s := h
theorem EvsS.a {f : Nat → Nat} {xs : List Go.Operand} {l : List SV} (h : EvsS σ f xs l := by repeat (first | exact EvsS.nil | refine EvsS.row (Ev.base rfl) rfl ?_ | refine EvsS.row (Ev.is rfl) rfl ?_ | refine EvsS.off (Ev.base rfl) rfl ?_ | refine EvsS.off (Ev.is rfl) rfl ?_ | refine EvsS.im Ev.a ?_ | refine EvsS.cons (Ev.base rfl) ?_ | refine EvsS.cons (Ev.is rfl) ?_)) : EvsS σ f xs l := h
theorem HIn.a {f : Nat → Nat} {Hc H : List Ent} (h : HIn f Hc H := by repeat (first | exact HIn.nil | refine HIn.cons rfl ?_)) : HIn f Hc H := h
theorem Cs.a {s : SV} {l : List SV} (h : Cs s l := by first | exact cs_agg | exact cs_val rfl | exact cs_view | exact cs_iagg | exact cs_row | exact cs_off | exact cs_ptr | exact cs_fn) : Cs s l := h
theorem Pc {place : Nat → Option (Nat × Nat)} {l cs out : List SV} {i off n : Nat} {s : SV} {rest : List (Nat × Go.Operand)} (hp : place i = some (off,n)) (hx : Ev σ x s) (hc : Cs s cs) (hn : Nat.beq cs.length n = true) (hle : Nat.ble (off + n) l.length = true) (t : Parts σ place (ovr l off cs) rest out) : Parts σ place l ((i,x) :: rest) out := .cons hp hx hc hn hle t
end
section
theorem SLe.a {rn : List (Nat × Nat)} {s s' : SV} (h : SLe rn s s' := by first | exact SLe.im ILe.refl | exact SLe.im (ILe.int (by omega)) | exact SLe.row rfl rfl | exact SLe.off rfl rfl | exact SLe.imAgg (ImOf.agg rfl ILes.refl) | exact SLe.row rfl (by assumption) | exact SLe.row rfl (by simp;done) | exact SLe.row rfl (by simp;omega) | exact SLe.is (SLe.row rfl rfl) | exact SLe.is (SLe.off rfl rfl) | exact SLe.im (ILe.nil rfl) | exact SLe.im (ILe.view rfl) | exact SLe.im (ILe.int (by first | assumption | exact Eq.symm (by assumption))) | exact SLe.im (ILe.eq (by first | assumption | exact Eq.symm (by assumption))) | exact SLe.im (ILe.bool (by first | assumption | exact Eq.symm (by assumption))) | exact SLe.is (SLe.im ILe.refl) | exact SLe.hd rfl) : SLe rn s s' := h
theorem SLes.a {rn : List (Nat × Nat)} {l l' : List SV} (h : SLes rn l l' := by repeat (first | exact SLes.nil | refine SLes.cons SLe.a ?_)) : SLes rn l l' := h
theorem SubE.a {rn : List (Nat × Nat)} {σ σ' : Env} (h : SubE rn σ σ' := by repeat (first | exact SubE.nil | refine SubE.cons rfl SLe.a ?_)) : SubE rn σ σ' := h
theorem SubH.a {rn : List (Nat × Nat)} {H H' : List Ent} (h : SubH rn H H' := by repeat (first | exact SubH.nil | refine SubH.cons rfl rfl (ObLe.row rfl) ?_ | refine SubH.cons rfl rfl (ObLe.blk SLes.a) ?_)) : SubH rn H H' := h
theorem HSb.a {H H' : List Ent} (h : HSb H H' := by repeat (first | exact HSb.nil | refine HSb.cons rfl ?_)) : HSb H H' := h
theorem Kept.a {args : List SV} {vs : List Value} {y : St} {l : List (Nat × Nat)} (h : Kept args vs y l := by repeat (first | exact Kept.nil | refine Kept.cons rfl rfl rfl ?_)) : Kept args vs y l := h
theorem ResV.a {C : Cfg} {y : St} {r : ResultVar} {s : IV} (h : ResV C y r s := by first | exact ResV.tmp rfl ImOf.a | exact ResV.cell rfl rfl rfl rfl ImOf.a | exact ResV.cellI rfl rfl rfl ImOf.a) : ResV C y r s := h
theorem ResVs.a {C : Cfg} {y : St} {l : List ResultVar} {l' : List IV} (h : ResVs C y l l' := by repeat (first | exact ResVs.nil | refine ResVs.cons ResV.a ?_)) : ResVs C y l l' := h
end
section
variable {C : Cfg} {F : Fx} {nt : Nat} {ops : Array Oper} {σ : Env} {H H' : List Ent} {fr fr' : Nat} {dn : List Nat} {l : List Oper} {s : SV} {d : Option Tmp} {op : Op} {ty : TypeId} {pos : String} {after : Array Edge} {K : List Nat → St → Prop} {gu : Option (Nat × Bool)} {x y : Go.Operand}
theorem nM (h : ev σ x = some s) (hd : dokD nt d = true) (t : ALK C ops nt (0 :: dn) l ⟨bnd d s σ,H,fr⟩ K) : ALK C ops nt dn (⟨d,.move x,ty,pos,after,none⟩ :: l) ⟨σ,H,fr⟩ K := .n (o4 (.base h)) hd t
theorem gM {j e : Nat} {b c : Bool} (h : ev σ x = some s) (hj : (ops[j]?).bind (·.dst) = some e) (hc : lk σ e = some (.im (IV.bool c))) (hd : dokD nt d = true) (t : ALK C ops nt (0 :: dn) l ⟨bnd d (.cnd (gd b c) s) σ,H,fr⟩ K) : ALK C ops nt dn (⟨d,.move x,ty,pos,after,some (j,b)⟩ :: l) ⟨σ,H,fr⟩ K := .g (fun _ => o4 (.base h)) hj hc hd t
theorem OpN.cm (h : OpN C ⟨d,op,ty,pos,after,gu⟩ σ s := by first | exact oC (Ev.base rfl) (Ev.base rfl) rfl | exact oB rfl (Ev.base rfl) (Ev.base rfl) rfl) : OpN C ⟨d,op,ty,pos,after,gu⟩ σ s := h
theorem OpN.ln (h : OpN C ⟨d,op,ty,pos,after,gu⟩ σ s := by first | exact qj rfl (Ev.base rfl) | exact opn_lenRow rfl (Ev.base rfl) | exact opn_lenNil rfl (Ev.base rfl)) : OpN C ⟨d,op,ty,pos,after,gu⟩ σ s := h
end
section
variable {C : Cfg} {F : Fx} {nt : Nat} {ops : Array Oper} {σ : Env} {H H' : List Ent} {fr fr' : Nat} {dn : List Nat} {l : List Oper} {s : SV} {d : Option Tmp} {op : Op} {ty : TypeId} {pos : String} {after : Array Edge} {K : List Nat → St → Prop} {gu : Option (Nat × Bool)} {x y : Go.Operand}
theorem n_mv (h : OpN C ⟨d,.move x,ty,pos,after,none⟩ σ s) (hd : dokD nt d = true := by rfl) : Step1 C ops nt 0 ⟨d,.move x,ty,pos,after,none⟩ ⟨σ,H,fr⟩ s ⟨bnd d s σ,H,fr⟩ := .n (.inl rfl) hd h
theorem g_mv {j e : Nat} {q v : Bool} (h : gd q v = true → OpN C ⟨d,.move x,ty,pos,after,some (j,q)⟩ σ s) (hj : (ops[j]?).bind (·.dst) = some e := by rfl) (hc : lk σ e = some (.im (IV.bool v)) := by rfl) (hd : dokD nt d = true := by rfl) : Step1 C ops nt 0 ⟨d,.move x,ty,pos,after,some (j,q)⟩ ⟨σ,H,fr⟩ (.cnd (gd q v) s) ⟨bnd d (.cnd (gd q v) s) σ,H,fr⟩ := .g rfl hj hc qy hd h
theorem k_mv {j e : Nat} {q v g : Bool} (h : (g && gd q v) = true → OpN C ⟨d,.move x,ty,pos,after,some (j,q)⟩ σ s) (hj : (ops[j]?).bind (·.dst) = some e := by rfl) (hc : lk σ e = some (.cnd g (.im (IV.bool v))) := by rfl) (hd : dokD nt d = true := by rfl) : Step1 C ops nt 0 ⟨d,.move x,ty,pos,after,some (j,q)⟩ ⟨σ,H,fr⟩ (.cnd (g && gd q v) s) ⟨bnd d (.cnd (g && gd q v) s) σ,H,fr⟩ := .g rfl hj hc gq_cnd hd h
theorem n_as (h : OpN C ⟨d,.assign x,ty,pos,after,none⟩ σ s) (hd : dokD nt d = true := by rfl) : Step1 C ops nt 0 ⟨d,.assign x,ty,pos,after,none⟩ ⟨σ,H,fr⟩ s ⟨bnd d s σ,H,fr⟩ := .n (.inl rfl) hd h
theorem n_ex {i : Nat} (h : OpN C ⟨d,.extract x i,ty,pos,after,none⟩ σ s) (hd : dokD nt d = true := by rfl) : Step1 C ops nt 0 ⟨d,.extract x i,ty,pos,after,none⟩ ⟨σ,H,fr⟩ s ⟨bnd d s σ,H,fr⟩ := .n (.inl rfl) hd h
theorem n_ld {t : TypeId} (h : OpN C ⟨d,.load t x,ty,pos,after,none⟩ σ s) (hd : dokD nt d = true := by rfl) : Step1 C ops nt 0 ⟨d,.load t x,ty,pos,after,none⟩ ⟨σ,H,fr⟩ s ⟨bnd d s σ,H,fr⟩ := .n (.inl rfl) hd h
theorem r_ld {t : TypeId} (h : OpR C ⟨d,.load t x,ty,pos,after,none⟩ σ H s) (hd : dokD nt d = true := by rfl) : Step1 C ops nt 3 ⟨d,.load t x,ty,pos,after,none⟩ ⟨σ,H,fr⟩ s ⟨bnd d s σ,H,fr⟩ := .r (.inl rfl) hd h
theorem g_ld {t : TypeId} {j e : Nat} {q v : Bool} (h : gd q v = true → OpN C ⟨d,.load t x,ty,pos,after,some (j,q)⟩ σ s) (hj : (ops[j]?).bind (·.dst) = some e := by rfl) (hc : lk σ e = some (.im (IV.bool v)) := by rfl) (hd : dokD nt d = true := by rfl) : Step1 C ops nt 0 ⟨d,.load t x,ty,pos,after,some (j,q)⟩ ⟨σ,H,fr⟩ (.cnd (gd q v) s) ⟨bnd d (.cnd (gd q v) s) σ,H,fr⟩ := .g rfl hj hc qy hd h
theorem k_ld {t : TypeId} {j e : Nat} {q v g : Bool} (h : (g && gd q v) = true → OpN C ⟨d,.load t x,ty,pos,after,some (j,q)⟩ σ s) (hj : (ops[j]?).bind (·.dst) = some e := by rfl) (hc : lk σ e = some (.cnd g (.im (IV.bool v))) := by rfl) (hd : dokD nt d = true := by rfl) : Step1 C ops nt 0 ⟨d,.load t x,ty,pos,after,some (j,q)⟩ ⟨σ,H,fr⟩ (.cnd (g && gd q v) s) ⟨bnd d (.cnd (g && gd q v) s) σ,H,fr⟩ := .g rfl hj hc gq_cnd hd h
theorem gr_ld {t : TypeId} {j e : Nat} {q v : Bool} (h : gd q v = true → OpR C ⟨d,.load t x,ty,pos,after,some (j,q)⟩ σ H s) (hj : (ops[j]?).bind (·.dst) = some e := by rfl) (hc : lk σ e = some (.im (IV.bool v)) := by rfl) (hd : dokD nt d = true := by rfl) : Step1 C ops nt 3 ⟨d,.load t x,ty,pos,after,some (j,q)⟩ ⟨σ,H,fr⟩ (.cnd (gd q v) s) ⟨bnd d (.cnd (gd q v) s) σ,H,fr⟩ := .rg rfl hj hc qy hd h
theorem qP {b : BinOp} {t t' : TypeId} (h : OpN C ⟨d,.binOp b t x y t',ty,pos,after,none⟩ σ s) (hd : dokD nt d = true := by rfl) : Step1 C ops nt 0 ⟨d,.binOp b t x y t',ty,pos,after,none⟩ ⟨σ,H,fr⟩ s ⟨bnd d s σ,H,fr⟩ := .n (.inl rfl) hd h
theorem vg {b : BinOp} {t t' : TypeId} {j e : Nat} {q v : Bool} (h : gd q v = true → OpN C ⟨d,.binOp b t x y t',ty,pos,after,some (j,q)⟩ σ s) (hj : (ops[j]?).bind (·.dst) = some e := by rfl) (hc : lk σ e = some (.im (IV.bool v)) := by rfl) (hd : dokD nt d = true := by rfl) : Step1 C ops nt 0 ⟨d,.binOp b t x y t',ty,pos,after,some (j,q)⟩ ⟨σ,H,fr⟩ (.cnd (gd q v) s) ⟨bnd d (.cnd (gd q v) s) σ,H,fr⟩ := .g rfl hj hc qy hd h
theorem n_ca {c : Call} (h : OpN C ⟨d,.call c,ty,pos,after,none⟩ σ s) (hd : dokD nt d = true := by rfl) : Step1 C ops nt 0 ⟨d,.call c,ty,pos,after,none⟩ ⟨σ,H,fr⟩ s ⟨bnd d s σ,H,fr⟩ := .n (.inl rfl) hd h
theorem g_ca {c : Call} {j e : Nat} {q v : Bool} (h : gd q v = true → OpN C ⟨d,.call c,ty,pos,after,some (j,q)⟩ σ s) (hj : (ops[j]?).bind (·.dst) = some e := by rfl) (hc : lk σ e = some (.im (IV.bool v)) := by rfl) (hd : dokD nt d = true := by rfl) : Step1 C ops nt 0 ⟨d,.call c,ty,pos,after,some (j,q)⟩ ⟨σ,H,fr⟩ (.cnd (gd q v) s) ⟨bnd d (.cnd (gd q v) s) σ,H,fr⟩ := .g rfl hj hc qy hd h
theorem uN {t : TypeId} (h : OpN C ⟨d,.indexAddr t x y,ty,pos,after,none⟩ σ s) (hd : dokD nt d = true := by rfl) : Step1 C ops nt 0 ⟨d,.indexAddr t x y,ty,pos,after,none⟩ ⟨σ,H,fr⟩ s ⟨bnd d s σ,H,fr⟩ := .n (.inl rfl) hd h
theorem g_ix {t : TypeId} {j e : Nat} {q v : Bool} (h : gd q v = true → OpN C ⟨d,.indexAddr t x y,ty,pos,after,some (j,q)⟩ σ s) (hj : (ops[j]?).bind (·.dst) = some e := by rfl) (hc : lk σ e = some (.im (IV.bool v)) := by rfl) (hd : dokD nt d = true := by rfl) : Step1 C ops nt 0 ⟨d,.indexAddr t x y,ty,pos,after,some (j,q)⟩ ⟨σ,H,fr⟩ (.cnd (gd q v) s) ⟨bnd d (.cnd (gd q v) s) σ,H,fr⟩ := .g rfl hj hc qy hd h
theorem k_ix {t : TypeId} {j e : Nat} {q v g : Bool} (h : (g && gd q v) = true → OpN C ⟨d,.indexAddr t x y,ty,pos,after,some (j,q)⟩ σ s) (hj : (ops[j]?).bind (·.dst) = some e := by rfl) (hc : lk σ e = some (.cnd g (.im (IV.bool v))) := by rfl) (hd : dokD nt d = true := by rfl) : Step1 C ops nt 0 ⟨d,.indexAddr t x y,ty,pos,after,some (j,q)⟩ ⟨σ,H,fr⟩ (.cnd (g && gd q v) s) ⟨bnd d (.cnd (g && gd q v) s) σ,H,fr⟩ := .g rfl hj hc gq_cnd hd h
theorem n_un {u : UnOp} {t : TypeId} (h : OpN C ⟨d,.unOp u t x,ty,pos,after,none⟩ σ s) (hd : dokD nt d = true := by rfl) : Step1 C ops nt 0 ⟨d,.unOp u t x,ty,pos,after,none⟩ ⟨σ,H,fr⟩ s ⟨bnd d s σ,H,fr⟩ := .n (.inl rfl) hd h
theorem g_un {u : UnOp} {t : TypeId} {j e : Nat} {q v : Bool} (h : gd q v = true → OpN C ⟨d,.unOp u t x,ty,pos,after,some (j,q)⟩ σ s) (hj : (ops[j]?).bind (·.dst) = some e := by rfl) (hc : lk σ e = some (.im (IV.bool v)) := by rfl) (hd : dokD nt d = true := by rfl) : Step1 C ops nt 0 ⟨d,.unOp u t x,ty,pos,after,some (j,q)⟩ ⟨σ,H,fr⟩ (.cnd (gd q v) s) ⟨bnd d (.cnd (gd q v) s) σ,H,fr⟩ := .g rfl hj hc qy hd h
theorem k_un {u : UnOp} {t : TypeId} {j e : Nat} {q v g : Bool} (h : (g && gd q v) = true → OpN C ⟨d,.unOp u t x,ty,pos,after,some (j,q)⟩ σ s) (hj : (ops[j]?).bind (·.dst) = some e := by rfl) (hc : lk σ e = some (.cnd g (.im (IV.bool v))) := by rfl) (hd : dokD nt d = true := by rfl) : Step1 C ops nt 0 ⟨d,.unOp u t x,ty,pos,after,some (j,q)⟩ ⟨σ,H,fr⟩ (.cnd (g && gd q v) s) ⟨bnd d (.cnd (g && gd q v) s) σ,H,fr⟩ := .g rfl hj hc gq_cnd hd h
theorem n_ni (h : OpN C ⟨d,.nilCheck x,ty,pos,after,none⟩ σ s) (hd : dokD nt d = true := by rfl) : Step1 C ops nt 0 ⟨d,.nilCheck x,ty,pos,after,none⟩ ⟨σ,H,fr⟩ s ⟨bnd d s σ,H,fr⟩ := .n (.inl rfl) hd h
theorem g_ni {j e : Nat} {q v : Bool} (h : gd q v = true → OpN C ⟨d,.nilCheck x,ty,pos,after,some (j,q)⟩ σ s) (hj : (ops[j]?).bind (·.dst) = some e := by rfl) (hc : lk σ e = some (.im (IV.bool v)) := by rfl) (hd : dokD nt d = true := by rfl) : Step1 C ops nt 0 ⟨d,.nilCheck x,ty,pos,after,some (j,q)⟩ ⟨σ,H,fr⟩ (.cnd (gd q v) s) ⟨bnd d (.cnd (gd q v) s) σ,H,fr⟩ := .g rfl hj hc qy hd h
theorem n_bo {t : TypeId} (h : OpN C ⟨d,.box t x,ty,pos,after,none⟩ σ s) (hd : dokD nt d = true := by rfl) : Step1 C ops nt 0 ⟨d,.box t x,ty,pos,after,none⟩ ⟨σ,H,fr⟩ s ⟨bnd d s σ,H,fr⟩ := .n (.inl rfl) hd h
theorem a_al {t : TypeId} {ob : HObj} (h : OpA C ⟨d,.alloc t,ty,pos,after,none⟩ σ fr s ob) (hd : dokD nt d = true := by rfl) : Step1 C ops nt 1 ⟨d,.alloc t,ty,pos,after,none⟩ ⟨σ,H,fr⟩ s ⟨bnd d s σ,(fr,ob) :: H,fr + 1⟩ := .a (.inl rfl) hd h
theorem e_st {t : TypeId} (h : OpE C ⟨d,.store t x y,ty,pos,after,none⟩ σ H fr s H' fr') (hd : dokD nt d = true := by rfl) (hf : Nat.ble fr fr' = true := by rfl) : Step1 C ops nt 2 ⟨d,.store t x y,ty,pos,after,none⟩ ⟨σ,H,fr⟩ s ⟨bnd d s σ,H',fr'⟩ := .e (.inl rfl) hd (Nat.le_of_ble_eq_true hf) h
theorem n_bd {t : TypeId} {ps : Array (Nat × Go.Operand)} (h : OpN C ⟨d,.build t ps,ty,pos,after,none⟩ σ s) (hd : dokD nt d = true := by rfl) : Step1 C ops nt 0 ⟨d,.build t ps,ty,pos,after,none⟩ ⟨σ,H,fr⟩ s ⟨bnd d s σ,H,fr⟩ := .n (.inl rfl) hd h
theorem n_pk {w : Go.Operand} (h : OpN C ⟨d,.pick w x y,ty,pos,after,none⟩ σ s) (hd : dokD nt d = true := by rfl) : Step1 C ops nt 0 ⟨d,.pick w x y,ty,pos,after,none⟩ ⟨σ,H,fr⟩ s ⟨bnd d s σ,H,fr⟩ := .n (.inl rfl) hd h
theorem sA {k : Nat} {o : Oper} {x y : St} (t : ALK C ops nt (k :: dn) l y K) (h : Step1 C ops nt k o x s y := by first | exact n_mv (o4 (Ev.base rfl)) | exact n_as (vn (Ev.base rfl)) | exact n_ex (yV (Ev.base rfl) rfl) | exact n_ld (oQ rfl (Ev.base rfl) rfl) | exact r_ld (oK rfl (Ev.base rfl) rfl rfl) | exact r_ld (oR rfl rfl (Ev.base rfl) rfl (by assumption) rfl) | exact r_ld (opr_loadK0 rfl (Ev.base rfl) rfl (by assumption) rfl) | exact r_ld (opr_loadK rfl (Ev.base rfl) rfl (by assumption) rfl) | exact qP (oC (Ev.base rfl) (Ev.base rfl) rfl) | exact qP (oB rfl (Ev.base rfl) (Ev.base rfl) rfl) | exact qP (oo (Ev.base rfl) (Ev.base rfl) (yq rfl (by omega) (by omega))) | exact qP (oo (Ev.base rfl) (Ev.base rfl) rfl) | exact n_ca (qj rfl (Ev.base rfl)) | exact n_ca (opn_lenRow rfl (Ev.base rfl)) | exact n_ca (opn_lenNil rfl (Ev.base rfl)) | exact uN (o7 rfl (Ev.base rfl) (Ev.base rfl) (by omega) (by assumption)) | exact uN (oj rfl (Ev.base rfl) (Ev.base rfl) (by omega) (by omega)) | exact uN (ye rfl (Ev.base rfl) (Ev.base rfl) (by omega) (by omega)) | exact uN (opn_indexArr rfl (Ev.base rfl) (Ev.base rfl) (by omega) (by omega)) | exact uN (oS rfl (Ev.base rfl) (Ev.base rfl) (by omega) (by omega)) | exact n_un (uE (Ev.base rfl)) | exact n_ni (yO (Ev.base rfl)) | exact n_ni (ja (Ev.base rfl)) | exact n_bo (opn_box (Ev.base rfl) Cs.a rfl) | exact a_al (opa_alloc rfl rfl) | exact e_st (oz rfl (Ev.base rfl) (Ev.base rfl) Cs.a rfl rfl rfl) | exact e_st (y4 rfl rfl (Ev.base rfl) (Ev.base rfl) (yG rfl) rfl rfl (by assumption)) | exact n_pk (oU (Ev.base rfl) rfl (fun hb2 => by first | exact hb2 | simp_all [gd]) rfl) | exact n_pk (ue (Ev.base rfl) rfl rfl (fun hb2 => by first | (rw [hb2];rfl) | simp_all [gd])) | exact n_bd (yC rfl rfl rfl rfl Parts.nil) | exact n_bd (yu rfl rfl rfl rfl rfl Parts.nil) | exact n_bd (yC rfl rfl rfl rfl (Pc rfl (Ev.base rfl) Cs.a rfl rfl Parts.nil)) | exact n_bd (yu rfl rfl rfl rfl rfl (Pc rfl (Ev.base rfl) Cs.a rfl rfl Parts.nil)) | exact n_bd (yC rfl rfl rfl rfl (Pc rfl (Ev.base rfl) Cs.a rfl rfl (Pc rfl (Ev.base rfl) Cs.a rfl rfl Parts.nil))) | exact n_bd (yu rfl rfl rfl rfl rfl (Pc rfl (Ev.base rfl) Cs.a rfl rfl (Pc rfl (Ev.base rfl) Cs.a rfl rfl Parts.nil))) | exact n_bd (yC rfl rfl rfl rfl (Pc rfl (Ev.base rfl) Cs.a rfl rfl (Pc rfl (Ev.base rfl) Cs.a rfl rfl (Pc rfl (Ev.base rfl) Cs.a rfl rfl Parts.nil)))) | exact n_bd (yu rfl rfl rfl rfl rfl (Pc rfl (Ev.base rfl) Cs.a rfl rfl (Pc rfl (Ev.base rfl) Cs.a rfl rfl (Pc rfl (Ev.base rfl) Cs.a rfl rfl Parts.nil)))) | exact n_bd (yC rfl rfl rfl rfl (Pc rfl (Ev.base rfl) Cs.a rfl rfl (Pc rfl (Ev.base rfl) Cs.a rfl rfl (Pc rfl (Ev.base rfl) Cs.a rfl rfl (Pc rfl (Ev.base rfl) Cs.a rfl rfl Parts.nil))))) | exact n_bd (yu rfl rfl rfl rfl rfl (Pc rfl (Ev.base rfl) Cs.a rfl rfl (Pc rfl (Ev.base rfl) Cs.a rfl rfl (Pc rfl (Ev.base rfl) Cs.a rfl rfl (Pc rfl (Ev.base rfl) Cs.a rfl rfl Parts.nil))))) | exact n_bd (yC rfl rfl rfl rfl (Pc rfl (Ev.base rfl) Cs.a rfl rfl (Pc rfl (Ev.base rfl) Cs.a rfl rfl (Pc rfl (Ev.base rfl) Cs.a rfl rfl (Pc rfl (Ev.base rfl) Cs.a rfl rfl (Pc rfl (Ev.base rfl) Cs.a rfl rfl Parts.nil)))))) | exact n_bd (yu rfl rfl rfl rfl rfl (Pc rfl (Ev.base rfl) Cs.a rfl rfl (Pc rfl (Ev.base rfl) Cs.a rfl rfl (Pc rfl (Ev.base rfl) Cs.a rfl rfl (Pc rfl (Ev.base rfl) Cs.a rfl rfl (Pc rfl (Ev.base rfl) Cs.a rfl rfl Parts.nil)))))) | exact n_bd (yC rfl rfl rfl rfl (Pc rfl (Ev.base rfl) Cs.a rfl rfl (Pc rfl (Ev.base rfl) Cs.a rfl rfl (Pc rfl (Ev.base rfl) Cs.a rfl rfl (Pc rfl (Ev.base rfl) Cs.a rfl rfl (Pc rfl (Ev.base rfl) Cs.a rfl rfl (Pc rfl (Ev.base rfl) Cs.a rfl rfl Parts.nil))))))) | exact n_bd (yu rfl rfl rfl rfl rfl (Pc rfl (Ev.base rfl) Cs.a rfl rfl (Pc rfl (Ev.base rfl) Cs.a rfl rfl (Pc rfl (Ev.base rfl) Cs.a rfl rfl (Pc rfl (Ev.base rfl) Cs.a rfl rfl (Pc rfl (Ev.base rfl) Cs.a rfl rfl (Pc rfl (Ev.base rfl) Cs.a rfl rfl Parts.nil))))))) | exact n_bs (o6 rfl rfl rfl rfl rfl rfl Parts.nil rfl) | exact n_bs (o6 rfl rfl rfl rfl rfl rfl (Pc rfl (Ev.base rfl) Cs.a rfl rfl Parts.nil) rfl) | exact n_bs (o6 rfl rfl rfl rfl rfl rfl (Pc rfl (Ev.base rfl) Cs.a rfl rfl (Pc rfl (Ev.base rfl) Cs.a rfl rfl Parts.nil)) rfl) | exact n_bs (o6 rfl rfl rfl rfl rfl rfl (Pc rfl (Ev.base rfl) Cs.a rfl rfl (Pc rfl (Ev.base rfl) Cs.a rfl rfl (Pc rfl (Ev.base rfl) Cs.a rfl rfl Parts.nil))) rfl)) : ALK C ops nt dn (o :: l) x K := .step h t
theorem sI {k : Nat} {o : Oper} {x y : St} (t : ALK C ops nt (k :: dn) l y K) (h : Step1 C ops nt k o x s y := by first | exact n_mv (o4 (Ev.is rfl)) | exact n_mv (o4 (Ev.base rfl)) | exact n_as (vn (Ev.is rfl)) | exact n_as (vn (Ev.base rfl)) | exact n_ex (yV (Ev.is rfl) rfl) | exact n_ex (yV (Ev.base rfl) rfl) | exact n_ld (oQ rfl (Ev.is rfl) rfl) | exact n_ld (oQ rfl (Ev.base rfl) rfl) | exact r_ld (oK rfl (Ev.is rfl) rfl rfl) | exact r_ld (oK rfl (Ev.base rfl) rfl rfl) | exact r_ld (oR rfl rfl (Ev.is rfl) rfl (by assumption) rfl) | exact r_ld (oR rfl rfl (Ev.base rfl) rfl (by assumption) rfl) | exact r_ld (opr_loadK0 rfl (Ev.is rfl) rfl (by assumption) rfl) | exact r_ld (opr_loadK0 rfl (Ev.base rfl) rfl (by assumption) rfl) | exact r_ld (opr_loadK rfl (Ev.is rfl) rfl (by assumption) rfl) | exact r_ld (opr_loadK rfl (Ev.base rfl) rfl (by assumption) rfl) | exact qP (oC (Ev.base rfl) (Ev.base rfl) rfl) | exact qP (oC (Ev.is rfl) (Ev.base rfl) rfl) | exact qP (oC (Ev.base rfl) (Ev.is rfl) rfl) | exact qP (oC (Ev.is rfl) (Ev.is rfl) rfl) | exact qP (oB rfl (Ev.base rfl) (Ev.base rfl) rfl) | exact qP (oB rfl (Ev.is rfl) (Ev.base rfl) rfl) | exact qP (oB rfl (Ev.base rfl) (Ev.is rfl) rfl) | exact qP (oB rfl (Ev.is rfl) (Ev.is rfl) rfl) | exact qP (oo (Ev.base rfl) (Ev.base rfl) (yq rfl (by omega) (by omega))) | exact qP (oo (Ev.is rfl) (Ev.base rfl) (yq rfl (by omega) (by omega))) | exact qP (oo (Ev.base rfl) (Ev.is rfl) (yq rfl (by omega) (by omega))) | exact qP (oo (Ev.is rfl) (Ev.is rfl) (yq rfl (by omega) (by omega))) | exact qP (oo (Ev.base rfl) (Ev.base rfl) rfl) | exact qP (oo (Ev.is rfl) (Ev.base rfl) rfl) | exact qP (oo (Ev.base rfl) (Ev.is rfl) rfl) | exact qP (oo (Ev.is rfl) (Ev.is rfl) rfl) | exact n_ca (qj rfl (Ev.is rfl)) | exact n_ca (qj rfl (Ev.base rfl)) | exact n_ca (opn_lenRow rfl (Ev.is rfl)) | exact n_ca (opn_lenRow rfl (Ev.base rfl)) | exact n_ca (opn_lenNil rfl (Ev.is rfl)) | exact n_ca (opn_lenNil rfl (Ev.base rfl)) | exact uN (o7 rfl (Ev.base rfl) (Ev.base rfl) (by omega) (by assumption)) | exact uN (o7 rfl (Ev.is rfl) (Ev.base rfl) (by omega) (by assumption)) | exact uN (o7 rfl (Ev.base rfl) (Ev.is rfl) (by omega) (by assumption)) | exact uN (o7 rfl (Ev.is rfl) (Ev.is rfl) (by omega) (by assumption)) | exact uN (oj rfl (Ev.base rfl) (Ev.base rfl) (by omega) (by omega)) | exact uN (oj rfl (Ev.is rfl) (Ev.base rfl) (by omega) (by omega)) | exact uN (oj rfl (Ev.base rfl) (Ev.is rfl) (by omega) (by omega)) | exact uN (oj rfl (Ev.is rfl) (Ev.is rfl) (by omega) (by omega)) | exact uN (ye rfl (Ev.base rfl) (Ev.base rfl) (by omega) (by omega)) | exact uN (ye rfl (Ev.is rfl) (Ev.base rfl) (by omega) (by omega)) | exact uN (ye rfl (Ev.base rfl) (Ev.is rfl) (by omega) (by omega)) | exact uN (ye rfl (Ev.is rfl) (Ev.is rfl) (by omega) (by omega)) | exact uN (opn_indexArr rfl (Ev.base rfl) (Ev.base rfl) (by omega) (by omega)) | exact uN (opn_indexArr rfl (Ev.is rfl) (Ev.base rfl) (by omega) (by omega)) | exact uN (opn_indexArr rfl (Ev.base rfl) (Ev.is rfl) (by omega) (by omega)) | exact uN (opn_indexArr rfl (Ev.is rfl) (Ev.is rfl) (by omega) (by omega)) | exact uN (oS rfl (Ev.base rfl) (Ev.base rfl) (by omega) (by omega)) | exact uN (oS rfl (Ev.is rfl) (Ev.base rfl) (by omega) (by omega)) | exact uN (oS rfl (Ev.base rfl) (Ev.is rfl) (by omega) (by omega)) | exact uN (oS rfl (Ev.is rfl) (Ev.is rfl) (by omega) (by omega)) | exact n_un (uE (Ev.is rfl)) | exact n_un (uE (Ev.base rfl)) | exact n_ni (yO (Ev.is rfl)) | exact n_ni (yO (Ev.base rfl)) | exact n_ni (ja (Ev.is rfl)) | exact n_ni (ja (Ev.base rfl)) | exact n_bo (opn_box (Ev.is rfl) Cs.a rfl) | exact n_bo (opn_box (Ev.base rfl) Cs.a rfl) | exact a_al (opa_alloc rfl rfl) | exact e_st (oz rfl (Ev.base rfl) (Ev.base rfl) Cs.a rfl rfl rfl) | exact e_st (oz rfl (Ev.is rfl) (Ev.base rfl) Cs.a rfl rfl rfl) | exact e_st (oz rfl (Ev.base rfl) (Ev.is rfl) Cs.a rfl rfl rfl) | exact e_st (oz rfl (Ev.is rfl) (Ev.is rfl) Cs.a rfl rfl rfl) | exact e_st (y4 rfl rfl (Ev.base rfl) (Ev.base rfl) (yG rfl) rfl rfl (by assumption)) | exact e_st (y4 rfl rfl (Ev.is rfl) (Ev.base rfl) (yG rfl) rfl rfl (by assumption)) | exact e_st (y4 rfl rfl (Ev.base rfl) (Ev.is rfl) (yG rfl) rfl rfl (by assumption)) | exact e_st (y4 rfl rfl (Ev.is rfl) (Ev.is rfl) (yG rfl) rfl rfl (by assumption))) : ALK C ops nt dn (o :: l) x K := .step h t
theorem gA {k : Nat} {o : Oper} {x y : St} (t : ALK C ops nt (k :: dn) l y K) (h : Step1 C ops nt k o x s y := by first | exact g_mv (fun hb => o4 (Ev.cnd rfl hb)) | exact g_mv (fun hb => o4 (Ev.base rfl)) | exact g_ex (fun hb => yV (Ev.cnd rfl hb) rfl) | exact g_ex (fun hb => yV (Ev.base rfl) rfl) | exact g_ld (fun hb => oQ rfl (Ev.cnd rfl hb) rfl) | exact g_ld (fun hb => oQ rfl (Ev.base rfl) rfl) | exact gr_ld (fun hb => oK rfl (Ev.cnd rfl hb) rfl rfl) | exact gr_ld (fun hb => oK rfl (Ev.base rfl) rfl rfl) | exact gr_ld (fun hb => oR rfl rfl (Ev.cnd rfl hb) rfl (by assumption) rfl) | exact gr_ld (fun hb => oR rfl rfl (Ev.base rfl) rfl (by assumption) rfl) | exact vg (fun hb => oC (Ev.base rfl) (Ev.base rfl) rfl) | exact vg (fun hb => oC (Ev.cnd rfl hb) (Ev.base rfl) rfl) | exact vg (fun hb => oC (Ev.base rfl) (Ev.cnd rfl hb) rfl) | exact vg (fun hb => oC (Ev.cnd rfl hb) (Ev.cnd rfl hb) rfl) | exact vg (fun hb => oB rfl (Ev.base rfl) (Ev.base rfl) rfl) | exact vg (fun hb => oB rfl (Ev.cnd rfl hb) (Ev.base rfl) rfl) | exact vg (fun hb => oB rfl (Ev.base rfl) (Ev.cnd rfl hb) rfl) | exact vg (fun hb => oB rfl (Ev.cnd rfl hb) (Ev.cnd rfl hb) rfl) | exact vg (fun hb => oo (Ev.base rfl) (Ev.base rfl) (yq rfl (by omega) (by omega))) | exact vg (fun hb => oo (Ev.cnd rfl hb) (Ev.base rfl) (yq rfl (by omega) (by omega))) | exact vg (fun hb => oo (Ev.base rfl) (Ev.cnd rfl hb) (yq rfl (by omega) (by omega))) | exact vg (fun hb => oo (Ev.cnd rfl hb) (Ev.cnd rfl hb) (yq rfl (by omega) (by omega))) | exact vg (fun hb => oo (Ev.base rfl) (Ev.base rfl) rfl) | exact vg (fun hb => oo (Ev.cnd rfl hb) (Ev.base rfl) rfl) | exact vg (fun hb => oo (Ev.base rfl) (Ev.cnd rfl hb) rfl) | exact vg (fun hb => oo (Ev.cnd rfl hb) (Ev.cnd rfl hb) rfl) | exact g_ca (fun hb => qj rfl (Ev.cnd rfl hb)) | exact g_ca (fun hb => qj rfl (Ev.base rfl)) | exact g_ca (fun hb => opn_lenRow rfl (Ev.cnd rfl hb)) | exact g_ca (fun hb => opn_lenRow rfl (Ev.base rfl)) | exact g_ix (fun hb => o7 rfl (Ev.base rfl) (Ev.base rfl) (by omega) (by assumption)) | exact g_ix (fun hb => o7 rfl (Ev.cnd rfl hb) (Ev.base rfl) (by omega) (by assumption)) | exact g_ix (fun hb => o7 rfl (Ev.base rfl) (Ev.cnd rfl hb) (by omega) (by assumption)) | exact g_ix (fun hb => o7 rfl (Ev.cnd rfl hb) (Ev.cnd rfl hb) (by omega) (by assumption)) | exact g_ix (fun hb => oj rfl (Ev.base rfl) (Ev.base rfl) (by omega) (by omega)) | exact g_ix (fun hb => oj rfl (Ev.cnd rfl hb) (Ev.base rfl) (by omega) (by omega)) | exact g_ix (fun hb => oj rfl (Ev.base rfl) (Ev.cnd rfl hb) (by omega) (by omega)) | exact g_ix (fun hb => oj rfl (Ev.cnd rfl hb) (Ev.cnd rfl hb) (by omega) (by omega)) | exact g_un (fun hb => uE (Ev.cnd rfl hb)) | exact g_un (fun hb => uE (Ev.base rfl)) | exact g_ni (fun hb => yO (Ev.cnd rfl hb)) | exact g_ni (fun hb => yO (Ev.base rfl)) | exact k_mv (fun hb => o4 (Ev.cnd rfl hb)) | exact k_mv (fun hb => o4 (Ev.base rfl)) | exact k_ex (fun hb => yV (Ev.cnd rfl hb) rfl) | exact k_ex (fun hb => yV (Ev.base rfl) rfl) | exact k_ld (fun hb => oQ rfl (Ev.cnd rfl hb) rfl) | exact k_ld (fun hb => oQ rfl (Ev.base rfl) rfl) | exact kr_ld (fun hb => oK rfl (Ev.cnd rfl hb) rfl rfl) | exact kr_ld (fun hb => oK rfl (Ev.base rfl) rfl rfl) | exact kr_ld (fun hb => oR rfl rfl (Ev.cnd rfl hb) rfl (by assumption) rfl) | exact kr_ld (fun hb => oR rfl rfl (Ev.base rfl) rfl (by assumption) rfl) | exact k_bi (fun hb => oC (Ev.base rfl) (Ev.base rfl) rfl) | exact k_bi (fun hb => oC (Ev.cnd rfl hb) (Ev.base rfl) rfl) | exact k_bi (fun hb => oC (Ev.base rfl) (Ev.cnd rfl hb) rfl) | exact k_bi (fun hb => oC (Ev.cnd rfl hb) (Ev.cnd rfl hb) rfl) | exact k_bi (fun hb => oB rfl (Ev.base rfl) (Ev.base rfl) rfl) | exact k_bi (fun hb => oB rfl (Ev.cnd rfl hb) (Ev.base rfl) rfl) | exact k_bi (fun hb => oB rfl (Ev.base rfl) (Ev.cnd rfl hb) rfl) | exact k_bi (fun hb => oB rfl (Ev.cnd rfl hb) (Ev.cnd rfl hb) rfl) | exact k_bi (fun hb => oo (Ev.base rfl) (Ev.base rfl) (yq rfl (by omega) (by omega))) | exact k_bi (fun hb => oo (Ev.cnd rfl hb) (Ev.base rfl) (yq rfl (by omega) (by omega))) | exact k_bi (fun hb => oo (Ev.base rfl) (Ev.cnd rfl hb) (yq rfl (by omega) (by omega))) | exact k_bi (fun hb => oo (Ev.cnd rfl hb) (Ev.cnd rfl hb) (yq rfl (by omega) (by omega))) | exact k_bi (fun hb => oo (Ev.base rfl) (Ev.base rfl) rfl) | exact k_bi (fun hb => oo (Ev.cnd rfl hb) (Ev.base rfl) rfl) | exact k_bi (fun hb => oo (Ev.base rfl) (Ev.cnd rfl hb) rfl) | exact k_bi (fun hb => oo (Ev.cnd rfl hb) (Ev.cnd rfl hb) rfl) | exact k_ca (fun hb => qj rfl (Ev.cnd rfl hb)) | exact k_ca (fun hb => qj rfl (Ev.base rfl)) | exact k_ca (fun hb => opn_lenRow rfl (Ev.cnd rfl hb)) | exact k_ca (fun hb => opn_lenRow rfl (Ev.base rfl)) | exact k_ix (fun hb => o7 rfl (Ev.base rfl) (Ev.base rfl) (by omega) (by assumption)) | exact k_ix (fun hb => o7 rfl (Ev.cnd rfl hb) (Ev.base rfl) (by omega) (by assumption)) | exact k_ix (fun hb => o7 rfl (Ev.base rfl) (Ev.cnd rfl hb) (by omega) (by assumption)) | exact k_ix (fun hb => o7 rfl (Ev.cnd rfl hb) (Ev.cnd rfl hb) (by omega) (by assumption)) | exact k_ix (fun hb => oj rfl (Ev.base rfl) (Ev.base rfl) (by omega) (by omega)) | exact k_ix (fun hb => oj rfl (Ev.cnd rfl hb) (Ev.base rfl) (by omega) (by omega)) | exact k_ix (fun hb => oj rfl (Ev.base rfl) (Ev.cnd rfl hb) (by omega) (by omega)) | exact k_ix (fun hb => oj rfl (Ev.cnd rfl hb) (Ev.cnd rfl hb) (by omega) (by omega)) | exact k_un (fun hb => uE (Ev.cnd rfl hb)) | exact k_un (fun hb => uE (Ev.base rfl)) | exact k_ni (fun hb => yO (Ev.cnd rfl hb)) | exact k_ni (fun hb => yO (Ev.base rfl))) : ALK C ops nt dn (o :: l) x K := .step h t
def FdS (C : Cfg) (ops : Array Oper) (nt : Nat) (_ : Nat) (k : Nat) (p : Oper) (x : St) (s : SV) (y : St) : Prop := Step1 C ops nt k p x s y
theorem fA {o f : Nat} {t : TypeId} {l : List IV} (hf : fld C t f = some o) (hx : Ev σ x (.im (IV.ptr l))) (hd : dokD nt d = true := by rfl) : FdS C ops nt o 0 ⟨d,.fieldAddr t x f,ty,pos,after,none⟩ ⟨σ,H,fr⟩ (.im (IV.ptr (l.drop o))) ⟨bnd d (.im (IV.ptr (l.drop o))) σ,H,fr⟩ := .n (.inl rfl) hd (qU hf hx)
theorem fB {o f i r : Nat} {t : TypeId} (hf : fld C t f = some o) (hx : Ev σ x (.off i r)) (hd : dokD nt d = true := by rfl) : FdS C ops nt o 0 ⟨d,.fieldAddr t x f,ty,pos,after,none⟩ ⟨σ,H,fr⟩ (.off i (r + o)) ⟨bnd d (.off i (r + o)) σ,H,fr⟩ := .n (.inl rfl) hd (ou hf hx)
theorem gfA {o f : Nat} {t : TypeId} {l : List IV} {j e : Nat} {q v : Bool} (hf : fld C t f = some o) (hx : (gd q v) = true → Ev σ x (.im (IV.ptr l))) (hj : (ops[j]?).bind (·.dst) = some e := by rfl) (hc : lk σ e = some (.im (IV.bool v)) := by rfl) (hd : dokD nt d = true := by rfl) : FdS C ops nt o 0 ⟨d,.fieldAddr t x f,ty,pos,after,some (j,q)⟩ ⟨σ,H,fr⟩ (.cnd (gd q v) (.im (IV.ptr (l.drop o)))) ⟨bnd d (.cnd (gd q v) (.im (IV.ptr (l.drop o)))) σ,H,fr⟩ := .g rfl hj hc qy hd (fun hb => qU hf (hx hb))
theorem kfA {o f : Nat} {t : TypeId} {l : List IV} {j e : Nat} {q v g : Bool} (hf : fld C t f = some o) (hx : (g && gd q v) = true → Ev σ x (.im (IV.ptr l))) (hj : (ops[j]?).bind (·.dst) = some e := by rfl) (hc : lk σ e = some (.cnd g (.im (IV.bool v))) := by rfl) (hd : dokD nt d = true := by rfl) : FdS C ops nt o 0 ⟨d,.fieldAddr t x f,ty,pos,after,some (j,q)⟩ ⟨σ,H,fr⟩ (.cnd (g && gd q v) (.im (IV.ptr (l.drop o)))) ⟨bnd d (.cnd (g && gd q v) (.im (IV.ptr (l.drop o)))) σ,H,fr⟩ := .g rfl hj hc gq_cnd hd (fun hb => qU hf (hx hb))
theorem fd (o : Nat) {k : Nat} {p : Oper} {x y : St} (t : ALK C ops nt (k :: dn) l y K) (h : FdS C ops nt o k p x s y := by first | exact fA rfl (Ev.base rfl) | exact fB rfl (Ev.base rfl)) : ALK C ops nt dn (p :: l) x K := .step h t
theorem fI (o : Nat) {k : Nat} {p : Oper} {x y : St} (t : ALK C ops nt (k :: dn) l y K) (h : FdS C ops nt o k p x s y := by first | exact fA rfl (Ev.is rfl) | exact fB rfl (Ev.is rfl) | exact fA rfl (Ev.base rfl) | exact fB rfl (Ev.base rfl)) : ALK C ops nt dn (p :: l) x K := .step h t
theorem gF (o : Nat) {k : Nat} {p : Oper} {x y : St} (t : ALK C ops nt (k :: dn) l y K) (h : FdS C ops nt o k p x s y := by first | exact gfA rfl (fun hb => Ev.cnd rfl hb) | exact gfA rfl (fun hb => Ev.is rfl) | exact gfA rfl (fun hb => Ev.base rfl) | exact gfB rfl (fun hb => Ev.cnd rfl hb) | exact gfB rfl (fun hb => Ev.is rfl) | exact gfB rfl (fun hb => Ev.base rfl) | exact kfA rfl (fun hb => Ev.cnd rfl hb) | exact kfA rfl (fun hb => Ev.is rfl) | exact kfA rfl (fun hb => Ev.base rfl) | exact kfB rfl (fun hb => Ev.cnd rfl hb) | exact kfB rfl (fun hb => Ev.is rfl) | exact kfB rfl (fun hb => Ev.base rfl)) : ALK C ops nt dn (p :: l) x K := .step h t
def Fst (C : Cfg) (F : Fx) (nt : Nat) (c c1 : Code) (Q Q1 : Exit → St → Prop) : Prop := ∀ x,WP C F nt c1 Q1 x → WP C F nt c Q x
variable {c c1 a b : Code} {Q Q1 : Exit → St → Prop} {Q' : Exit → St → Prop} {z : St} {id : Nat} {ls : List Oper}
theorem Fst.r : Fst C F nt c c Q Q := fun _ h => h
theorem Fst.q (h : Fst C F nt a c1 (XThen (WP C F nt b Q) Q) Q1) : Fst C F nt (.seq a b) c1 Q Q1 := fun x k => WP.seq (h x k)
theorem zR (t : ALK C ls.toArray nt [] ls z (fun _ y => Q1 .normal y)) (h : Fst C F nt c (.region id ls.toArray false) Q Q1 := by first | exact Fst.r | exact Fst.q (Fst.r) | exact Fst.q (Fst.q (Fst.r)) | exact Fst.q (Fst.q (Fst.q (Fst.r))) | exact Fst.q (Fst.q (Fst.q (Fst.q (Fst.r)))) | exact Fst.q (Fst.q (Fst.q (Fst.q (Fst.q (Fst.r))))) | exact Fst.q (Fst.q (Fst.q (Fst.q (Fst.q (Fst.q (Fst.r))))))) : WP C F nt c Q z := h _ (WP.lreg t)
theorem zW (t : ALK C ls.toArray nt [] ls z (fun ks y => regOk ls ks = true ∧ Q1 .normal y)) (h : Fst C F nt c (.region id ls.toArray true) Q Q1 := by first | exact Fst.r | exact Fst.q (Fst.r) | exact Fst.q (Fst.q (Fst.r)) | exact Fst.q (Fst.q (Fst.q (Fst.r))) | exact Fst.q (Fst.q (Fst.q (Fst.q (Fst.r)))) | exact Fst.q (Fst.q (Fst.q (Fst.q (Fst.q (Fst.r))))) | exact Fst.q (Fst.q (Fst.q (Fst.q (Fst.q (Fst.q (Fst.r))))))) : WP C F nt c Q z := h _ (WP.ldraw t)
theorem zB (t : WP C F nt a (XBlock id Q1) z) (h : Fst C F nt c (.block id a) Q Q1 := by first | exact Fst.r | exact Fst.q (Fst.r) | exact Fst.q (Fst.q (Fst.r)) | exact Fst.q (Fst.q (Fst.q (Fst.r))) | exact Fst.q (Fst.q (Fst.q (Fst.q (Fst.r)))) | exact Fst.q (Fst.q (Fst.q (Fst.q (Fst.q (Fst.r))))) | exact Fst.q (Fst.q (Fst.q (Fst.q (Fst.q (Fst.q (Fst.r))))))) : WP C F nt c Q z := h _ (WP.block t)
theorem zC {i : Nat} {v : Bool} (h1 : v = true → WP C F nt a Q1 z) (h2 : v = false → WP C F nt b Q1 z) (h : Fst C F nt c (.cond (.tmp i) a b) Q Q1 := by first | exact Fst.r | exact Fst.q (Fst.r) | exact Fst.q (Fst.q (Fst.r)) | exact Fst.q (Fst.q (Fst.q (Fst.r))) | exact Fst.q (Fst.q (Fst.q (Fst.q (Fst.r)))) | exact Fst.q (Fst.q (Fst.q (Fst.q (Fst.q (Fst.r))))) | exact Fst.q (Fst.q (Fst.q (Fst.q (Fst.q (Fst.q (Fst.r))))))) (hb : lk z.σ i = some (.im (IV.bool v)) := by rfl) : WP C F nt c Q z := h _ (WP.cond hb h1 h2)
theorem zN {K : St → Prop} {p : Prop} (t : p) (h : p → K z := by first | exact fun (h : WP _ _ _ _ _ _) => h | exact fun h => h) : ALK C ops nt dn [] z (fun _ y => K y) := ALK.nil (h t)
theorem zD {l0 : List Oper} {K : St → Prop} {p : Prop} (t : p) (h : p → K z := by first | exact fun (h : WP _ _ _ _ _ _) => h | exact fun h => h) (hr : regOk l0 dn.reverse = true := by kernel_rfl) : ALK C ops nt dn [] z (fun ks y => regOk l0 ks = true ∧ K y) := ALK.nilD hr (h t)
theorem zS (h : WP C F nt c Q z) (k : WP C F nt c Q z → Q1 .normal z := by exact fun h => h) : WP C F nt .skip Q1 z := WP.skip (k h)
theorem zE (h : WP C F nt c1 Q z) (hf : Fst C F nt c (.exit id) Q' Q1 := by first | exact Fst.r | exact Fst.q (Fst.r) | exact Fst.q (Fst.q (Fst.r)) | exact Fst.q (Fst.q (Fst.q (Fst.r))) | exact Fst.q (Fst.q (Fst.q (Fst.q (Fst.r)))) | exact Fst.q (Fst.q (Fst.q (Fst.q (Fst.q (Fst.r))))) | exact Fst.q (Fst.q (Fst.q (Fst.q (Fst.q (Fst.q (Fst.r))))))) (k : WP C F nt c1 Q z → Q1 (.exit id) z := by exact fun h => h) : WP C F nt c Q' z := hf _ (WP.exit (k h))
variable {fn : Func} {r : Array ResultVar}
theorem zT (e : fn.results = r) (hf : Fst C F nt c .ret Q Q1 := by first | exact Fst.r | exact Fst.q (Fst.r) | exact Fst.q (Fst.q (Fst.r)) | exact Fst.q (Fst.q (Fst.q (Fst.r))) | exact Fst.q (Fst.q (Fst.q (Fst.q (Fst.r)))) | exact Fst.q (Fst.q (Fst.q (Fst.q (Fst.q (Fst.r))))) | exact Fst.q (Fst.q (Fst.q (Fst.q (Fst.q (Fst.q (Fst.r))))))) (h : fn.results = r → Q1 .ret z := by first | exact fun e => RetOk.one e ResV.a | exact fun e => RetOk.tup e rfl ResVs.a | exact fun e => RetOkE.none e HSb.a Kept.a | exact fun e => RetOkE.one e ResV.a HSb.a Kept.a | exact fun e => RetOkE.sv e rfl HSb.a Kept.a | exact fun e => RetOkE.tup e rfl ResVs.a HSb.a Kept.a) : WP C F nt c Q z := hf _ (WP.ret (h e))
end
end Go.Proofs.YtjgmbgfcffnanaaGreatDoor
