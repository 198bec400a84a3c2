/- What is appended to an empty literal. No program. Operations on strings, bytes and shifted numbers. No condition. -/
import Derived.Laws.IdiomStrings
import Derived.Test.YtjgmbgfcffnanaaGreatDoorZ8
import Derived.Test.YtjgmbgfcffnanaaGreatDoorZ18
namespace Go.Proofs.YtjgmbgfcffnanaaGreatDoor
open Go.RowKit
section
variable {C : Cfg} {σ : Env} {H : List Ent} {fr : Nat} {d : Option Tmp} {ty : TypeId} {pos : String} {after : Array Edge} {gu : Option (Nat × Bool)}
theorem run_app_same {P : Program} (w : World) (t ty e : TypeId) (de : TyInf) (ht : P.underlying t = some (.slice e)) (hT : TyIs P e de) (b : Addr) (a : Addr) (m c : Nat) (news : List Value) (hl : news.length = m * de.size) (hnews : ∀ j u,news[j]? = some u → w.cell? (a.add j) = some u) (h0 : 0 < m) (h63 : m ≤ 9223372036854775807) (hb : m * de.bytes ≤ 140737488355328) :
 (Builtin.append_ #[t,t] ty #[.slice (some b) 0 0,.slice (some a) m c]).run P w = (Builtin.append_ #[t,t] ty #[.slice none 0 0,.slice (some a) m c]).run P w := by
 obtain ⟨_,i,hi,hz,hs,hby⟩ := hT
 rw [← hby] at hb
 rw [run_append_nil (P := P) w t ty e i de.zero ht hi hz a m c news (by rw [hs];exact hl) hnews h0 (by omega) (by omega)]
 have := run_append_grow (P := P) w t ty e i de.zero ht hi hz b 0 0 [] (by simp) (fun j u h => by simp at h) a m c news (by rw [hs];exact hl) hnews (by omega) (by omega) (growslice_fits (by omega) (by rw [Nat.zero_add];exact hb))
 rw [this]
 simp only [Nat.zero_add]
 congr 3
 simp
theorem uC {α β : Type} {t et : TypeId} {x y : Go.Operand} {de : TyInf} {k b : Nat} {enc : α → List IV} {enc0 : β → List IV} {ys0 : List β} (ys : List α) (hT : slT C t = some (et,de)) (hk : de.size = k) (hz : Nat.beq de.zero.cells.size k = true) (hk0 : Nat.blt 0 k = true) (hby : de.bytes = b) (hkk : ∀ a,(enc a).length = k)
 (hx : Ev σ x (.pk 0 [])) (hy : Ev σ y (.im (IV.view k enc0 ys0))) (hm : ys0.map enc0 = ys.map enc) (hne : ys ≠ []) (hb : ys.length * b ≤ 140737488355328) (hb0 : Nat.blt 0 b = true) :
 OpA C ⟨d,.call { callee := .builtin .append,args := #[x,y],argTypes := #[t,t] },ty,pos,after,gu⟩ σ fr (.row fr ys.length) (.row et k enc ys) := OpA.of rfl fun ρ μ a w hl ha hfr => by
 have h0 := hx.at hl (by simp [Op.operands,Call.operands])
 unfold SV.R at h0
 obtain ⟨bb,vs0,h1,_⟩ := h0
 obtain ⟨hu,hTe⟩ := jd hT
 subst hk hby
 have hlys : ys0.length = ys.length := by have := congrArg List.length hm;simpa using this
 have hpos : 0 < ys.length := List.length_pos_iff.2 hne
 obtain ⟨A,c,h9,hc1,hc2,h10⟩ := hy.im hl (by simp [Op.operands,Call.operands])
 obtain ⟨bA,oA,rfl,h10b⟩ := h10.resolve_left (fun e => by rw [e] at hlys;simp at hlys;omega)
 have hmap : ∀ i z,ys[i]? = some z → Cells μ bA (oA + i * de.size) (enc z) := fun i z hz => by
  have h11 : (ys0.map enc0)[i]? = some (enc z) := by rw [hm,List.getElem?_map,hz];rfl
  rw [List.getElem?_map,Option.map_eq_some_iff] at h11
  obtain ⟨z0,h12,h13⟩ := h11
  rw [← h13];exact h10b i z0 h12
 obtain ⟨news,h11,h12,h13,h14⟩ := view_vals ha hkk hmap
 have hnews : ∀ j u,news[j]? = some u → w.cell? ((⟨bA,oA,none⟩ : Addr).add j) = some u := fun j u hj => by
  have := h14 j u hj
  by_cases h0 : j = 0 <;> simp [Addr.add,h0] <;> simpa [h0] using this
 have hbb : ys.length ≤ 140737488355328 := by
  have h15 : 0 < de.bytes := Nat.blt_eq ▸ hb0
  exact Nat.le_trans (Nat.le_mul_of_pos_right _ h15) hb
 obtain ⟨v',w',hr,h15,h16,h17⟩ := run_app (P := C.P) w t ty et de hu hTe (Nat.eq_of_beq_eq_true hz) (Nat.blt_eq ▸ hk0) (.slice none 0 0) 0 [] (World.ownsRow_nil _ _ _ _) (some ⟨bA,oA,none⟩) ys.length c news h13 (.inr ⟨_,rfl,hnews⟩) h12 (by simp only [maxLen];omega) (by rw [Nat.zero_add];exact hb)
 rw [Nat.zero_add,List.nil_append] at h15
 have hsame := run_app_same (P := C.P) w t ty et de hu hTe ⟨bb,0,none⟩ ⟨bA,oA,none⟩ ys.length c news h13 hnews hpos (by omega) hb
 have hrun : (execOp a.eval ⟨d,.call { callee := .builtin .append,args := #[x,y],argTypes := #[t,t] },ty,pos,after,gu⟩).run C.P w = .ok (.value v') w' := by
  rw [hlys] at h9
  simp only [execOp,resolve,invoke,builtin,Sem.run_bind,Sem.run_pure,Result.andThen_ok,List.map_toArray,List.map_cons,List.map_nil,h1,h9,hsame,hr]
 have hnb : ∀ g,v'.ownBlock = some g → g = w.heap.size := fun g hg => by
  rcases h17 with h17 | h17
  ·rw [h17] at hg;cases hg
  ·rw [h17] at hg;injection hg with hg;exact hg.symm
 have hno : μ w.heap.size = none := by
  cases e : μ w.heap.size with
  | none => rfl
  | some q => exact absurd (ha.lt (b := w.heap.size) (by rw [e];simp)) (Nat.lt_irrefl _)
 have hbelow : Below w.heap.size w w' := ⟨h16.os,h16.tape,h16.output,h16.size,fun k hk => h16.block k hk (by simp [Value.ownBlock])⟩
 unfold Oper.wp
 rw [hrun]
 refine ⟨v',μ,rfl,?_,⟨v',news,oY _ _ _,h15,h11,hkk,fun g hg => by rw [hnb g hg];exact hno,h12⟩,fun g hg => ?_,⟨hbelow,Mem.le.refl _,fun _ h => .inl h,fun b cs hb => ?_⟩⟩
 ·unfold SV.R
  refine ⟨oY _ _ _,?_⟩
  rcases h15.2 with ⟨rfl,hn⟩ | ⟨g,cap,cur,rfl,_⟩
  ·exact ⟨none,0,by rw [hn],.inl hn⟩
  ·exact ⟨_,cap,rfl,.inr ⟨g,rfl⟩⟩
 ·rw [oh h15] at hg
  rw [hnb g hg]
  exact Nat.le_refl _
 ·obtain ⟨t',fz,hh⟩ := ha b cs hb
  exact ⟨t',fz,(hbelow.block b (Array.getElem?_eq_some_iff.1 hh).1).trans hh⟩
theorem qA {β : Type} {t et : TypeId} {x y : Go.Operand} {de : TyInf} {r k : Nat} {enc0 : β → List IV} (hT : slT C t = some (et,de)) (hx : Ev σ x (.row r 0)) (hy : Ev σ y (.im (IV.view k enc0 []))) :
 OpN C ⟨d,.call { callee := .builtin .append,args := #[x,y],argTypes := #[t,t] },ty,pos,after,gu⟩ σ (.row r 0) := OpN.pure fun ρ μ a w hl ha => by
 have h0 := hx.at hl (by simp [Op.operands,Call.operands])
 have h0' := h0
 unfold SV.R at h0'
 obtain ⟨_,A0,c0,h2,_⟩ := h0'
 obtain ⟨hu,hTe⟩ := jd hT
 obtain ⟨_,i,hi,hz,hs,hby⟩ := hTe
 obtain ⟨A,c,h9,_,_,_⟩ := hy.im hl (by simp [Op.operands,Call.operands])
 refine ⟨a.eval x,?_,h0⟩
 have : (Builtin.append_ #[t,t] ty #[.slice A0 0 c0,.slice A 0 c]).run C.P w = .ok (.slice A0 0 c0) w := by
  cases A0 with
  | none => cases A <;> simp [Builtin.append_,run_underlying hu,sizeOf,typeInfo,hi,Builtin.lenOf,Builtin.firstCells,loadCells,loadCellsFrom]
  | some a0 => cases A <;> simp [Builtin.append_,run_underlying hu,sizeOf,typeInfo,hi,Builtin.lenOf,Builtin.firstCells,loadCells,loadCellsFrom,storeCells]
 simp only [execOp,resolve,invoke,builtin,Sem.run_bind,Sem.run_pure,Result.andThen_ok,List.map_toArray,List.map_cons,List.map_nil,h2]
 rw [show (([] : List β).length) = 0 from rfl] at h9
 simp only [h9,this,Result.andThen_ok]
end
def bS (l : List UInt8) : ByteArray := ⟨l.toArray⟩
abbrev IV.str (l : List UInt8) : IV := IV.val (.string (bS l))
def cU8 (b : UInt8) : List IV := [IV.val (.int .u8 (b.toNat : Int))]
abbrev bytesV (l : List UInt8) : IV := IV.view 1 cU8 l
theorem yL (l : List UInt8) : (bS l).size = l.length := by simp [bS,ByteArray.size]
theorem bS_list (s : ByteArray) : bS s.data.toList = s := by simp [bS]
theorem toList_loop (s : ByteArray) : ∀ (n i : Nat) (r : List UInt8),s.size - i = n → ByteArray.toList.loop s i r = r.reverse ++ s.data.toList.drop i := by
 intro n
 induction n with
 | zero =>
  intro i r h
  unfold ByteArray.toList.loop
  rw [if_neg (by omega),List.drop_eq_nil_of_le (by simp only [Array.length_toList];exact Nat.le_of_sub_eq_zero h),List.append_nil]
 | succ n ih =>
  intro i r h
  have hi : i < s.size := by omega
  unfold ByteArray.toList.loop
  rw [if_pos hi,ih (i + 1) _ (by omega)]
  have hi' : i < s.data.toList.length := by simpa using hi
  rw [List.drop_eq_getElem_cons hi']
  have : s.get! i = s.data.toList[i] := by
   cases s with
   | mk d =>
    have hd : i < d.size := hi
    simp only [ByteArray.get!]
    simp [hd]
  rw [this]
  simp
theorem bS_toList (l : List UInt8) : (bS l).toList = l := by
 unfold ByteArray.toList
 rw [toList_loop (bS l) _ 0 [] rfl]
 simp [bS]
def undS (C : Cfg) (t : TypeId) : Bool := match C.tt t with
 | some dt => match dt.und with
  | .string => true
  | _ => false
 | none => false
theorem qt {C : Cfg} {t : TypeId} (h : undS C t = true) : C.P.underlying t = some .string := by
 unfold undS at h
 cases h1 : C.tt t with
 | none => simp [h1] at h
 | some dt =>
  simp only [h1] at h
  have h2 := (C.ok _ _ h1).und
  cases h3 : dt.und with
  | string => have := (C.ok _ _ h1).1;rw [h3] at this;exact this
  | _ => simp [h3] at h
def undY (C : Cfg) (t : TypeId) : Option TypeId := match C.tt t with
 | some dt => match dt.und with
  | .slice e => match C.tt e with
   | some de => match de.und with
    | .int .u8 => some e
    | _ => none
   | none => none
  | _ => none
 | none => none
theorem undY_at {C : Cfg} {t e : TypeId} (h : undY C t = some e) : C.P.underlying t = some (.slice e) ∧ C.P.underlying e = some (.int .u8) := by
 unfold undY at h
 cases h1 : C.tt t with
 | none => simp [h1] at h
 | some dt =>
  simp only [h1] at h
  have h2 := (C.ok _ _ h1).1
  cases h3 : dt.und with
  | slice e' =>
   simp only [h3] at h
   cases h4 : C.tt e' with
   | none => simp [h4] at h
   | some de =>
    simp only [h4] at h
    have h5 := (C.ok _ _ h4).1
    cases h6 : de.und with
    | int k =>
     simp only [h6] at h
     cases k <;> simp at h
     subst h
     rw [h3] at h2
     rw [h6] at h5
     exact ⟨h2,h5⟩
    | _ => simp [h6] at h
  | _ => simp [h3] at h
theorem SV.Rs.drop {ρ : Nms} {μ : Mem} : ∀ {l : List SV} {vs : List Value},SV.Rs ρ μ l vs → ∀ n,SV.Rs ρ μ (l.drop n) (vs.drop n)
 | l,vs,h,0 => h
 | [],vs,h,n + 1 => by unfold SV.Rs at h;subst h;simp [SV.Rs]
 | s :: l,vs,h,n + 1 => by
  unfold SV.Rs at h
  obtain ⟨v,vs',rfl,_,h2⟩ := h
  exact SV.Rs.drop h2 n
section
variable {C : Cfg} {σ : Env} {d : Option Tmp} {ty : TypeId} {pos : String} {after : Array Edge} {gu : Option (Nat × Bool)}
theorem oJ {t : TypeId} {x : Go.Operand} {l : List UInt8} (hk : undS C t = true) (hx : Ev σ x (.im (IV.str l))) : OpN C ⟨d,.call { callee := .builtin .len,args := #[x],argTypes := #[t] },ty,pos,after,gu⟩ σ (.im (IV.int l.length)) := OpN.pure fun ρ μ a w hl ha => by
 have h1 := hx.val hl (by simp [Op.operands,Call.operands])
 refine ⟨_,?_,oi.2 rfl⟩
 simp [execOp,resolve,invoke,builtin,h1,Builtin.len_,goInt,run_underlying (qt hk),yL]
theorem yd {t : TypeId} {x ix : Go.Operand} {l : List UInt8} {i : Int} {b : UInt8} (hk : undS C t = true) (hx : Ev σ x (.im (IV.str l))) (hi : Ev σ ix (.im (IV.int i))) (h0 : 0 ≤ i) (hb : l[i.toNat]? = some b) : OpN C ⟨d,.index t x ix,ty,pos,after,gu⟩ σ (.im (IV.val (.int .u8 (b.toNat : Int)))) := OpN.pure fun ρ μ a w hl ha => by
 have h1 := hx.val hl (by simp [Op.operands])
 have h2 := hi.val hl (by simp [Op.operands])
 refine ⟨_,?_,oi.2 rfl⟩
 have h3 : (bS l)[i.toNat]? = some b := by
  have h4 : i.toNat < (bS l).size := by rw [yL];exact (List.getElem?_eq_some_iff.1 hb).1
  rw [getElem?_pos (bS l) i.toNat h4]
  have h5 := (List.getElem?_eq_some_iff.1 hb).2
  congr 1
 simp [execOp,Instr.index,asIntOf,h1,h2,run_underlying (qt hk),h0,h3]
theorem extract_drop (l : List UInt8) (k : Nat) (_ : k ≤ l.length) : (bS l).extract k (bS l).size = bS (l.drop k) := by
 apply ByteArray.ext
 rw [ByteArray.data_extract]
 apply Array.ext'
 simp [bS,ByteArray.size,List.take_of_length_le]
theorem opn_sliceStr {t : TypeId} {x y : Go.Operand} {l : List UInt8} {k : Nat} (hk : undS C t = true) (hx : Ev σ x (.im (IV.str l))) (hlo : Ev σ y (.im (IV.int (k : Int)))) (h1 : k ≤ l.length) : OpN C ⟨d,.slice t x (some y) none none,ty,pos,after,gu⟩ σ (.im (IV.str (l.drop k))) := OpN.pure fun ρ μ a w hl ha => by
 have e1 := hx.val hl (by simp [Op.operands])
 have e2 := hlo.val hl (by simp [Op.operands])
 refine ⟨_,?_,oi.2 rfl⟩
 have e3 : (k : Int) ≤ ((bS l).size : Int) := by rw [yL];omega
 have e4 : k ≤ (bS l).size := by rw [yL];omega
 simp [execOp,Instr.sliceAt,Instr.slice,Instr.sliceBounds,Instr.sliceBound,asIntOf,e1,e2,run_underlying (qt hk),e4,extract_drop l k h1]
theorem uM (op : BinOp) (t : TypeId) (x y : Go.Operand) (a b : ByteArray) (w : World) : (eqGuard op t x y (.string a) (.string b)).run C.P w = .ok () w := by
 unfold eqGuard;cases op <;> simp
def cmpS (op : BinOp) (a b : List UInt8) : Option Bool := match op with
 | .eql => some (a == b)
 | .neq => some (!(a == b))
 | _ => none
theorem oa {op : BinOp} {t t' : TypeId} {x y : Go.Operand} {a b : List UInt8} {c : Bool} (hx : Ev σ x (.im (IV.str a))) (hy : Ev σ y (.im (IV.str b))) (hc : cmpS op a b = some c) : OpN C ⟨d,.binOp op t x y t',ty,pos,after,gu⟩ σ (.im (IV.bool c)) := OpN.pure fun ρ μ ac w hl ha => by
 have h1 := hx.val hl (by simp [Op.operands])
 have h2 := hy.val hl (by simp [Op.operands])
 refine ⟨_,?_,oi.2 rfl⟩
 cases op with
 | eql =>
  have hc : some (a == b) = some c := hc
  injection hc with hc
  subst hc
  simp [execOp,h1,h2,uM,binOp,Op.stringOp,bS_toList]
 | neq =>
  have hc : some (!(a == b)) = some c := hc
  injection hc with hc
  subst hc
  simp [execOp,h1,h2,uM,binOp,Op.stringOp,bS_toList]
 | _ => cases hc
theorem bS_append (a b : List UInt8) : bS a ++ bS b = bS (a ++ b) := by
 apply ByteArray.ext
 rw [ByteArray.data_append]
 simp [bS]
theorem ol {t t' : TypeId} {x y : Go.Operand} {a b : List UInt8} (hx : Ev σ x (.im (IV.str a))) (hy : Ev σ y (.im (IV.str b))) (hl : a.length + b.length ≤ 9223372036854775807) : OpN C ⟨d,.binOp .add t x y t',ty,pos,after,gu⟩ σ (.im (IV.str (a ++ b))) := OpN.pure fun ρ μ ac w hlo ha => by
 have h1 := hx.val hlo (by simp [Op.operands])
 have h2 := hy.val hlo (by simp [Op.operands])
 refine ⟨_,?_,oi.2 rfl⟩
 have h3 := run_string_add_sum (P := C.P) (w := w) (bS a) (bS b) (by rw [yL,yL];exact hl)
 simp [execOp,h1,h2,uM,binOp,h3,bS_append]
theorem opn_shl {t t' : TypeId} {x y : Go.Operand} {a b : Int} {kd : IntKind} {n : Nat} (hx : Ev σ x (.im (IV.int a))) (hy : Ev σ y (.im (IV.val (.int kd b)))) (hb : b = (n : Int)) (hn : n ≤ 64) : OpN C ⟨d,.binOp .shl t x y t',ty,pos,after,gu⟩ σ (.im (IV.int (wrap64 (a * 2 ^ n)))) := OpN.pure fun ρ μ ac w hl ha => by
 have h1 := hx.val hl (by simp [Op.operands])
 have h2 := hy.val hl (by simp [Op.operands])
 subst hb
 refine ⟨_,?_,oi.2 rfl⟩
 have h3 : min ((n : Int)).toNat (IntKind.bits .i64) = n := by
  show min ((n : Int)).toNat 64 = n
  rw [Int.toNat_natCast];omega
 have h4 : ¬ ((n : Int) < 0) := by omega
 simp only [execOp,h1,h2,Sem.run_bind,ox,binOp,Op.shift,if_neg h4,h3,Result.andThen_ok,Sem.run_pure,wrap_i64]
theorem qz {t t' : TypeId} {x y : Go.Operand} {a b : Int} {kd : IntKind} {n : Nat} (hx : Ev σ x (.im (IV.int a))) (hy : Ev σ y (.im (IV.val (.int kd b)))) (hb : b = (n : Int)) (hn : n ≤ 64) : OpN C ⟨d,.binOp .shr t x y t',ty,pos,after,gu⟩ σ (.im (IV.int (shrI a n))) := OpN.pure fun ρ μ ac w hl ha => by
 have h1 := hx.val hl (by simp [Op.operands])
 have h2 := hy.val hl (by simp [Op.operands])
 subst hb
 refine ⟨_,?_,oi.2 rfl⟩
 have h3 : min ((n : Int)).toNat (IntKind.bits .i64) = n := by
  show min ((n : Int)).toNat 64 = n
  rw [Int.toNat_natCast];omega
 have h4 : ¬ ((n : Int) < 0) := by omega
 simp only [execOp,h1,h2,Sem.run_bind,ox,binOp,Op.shift,if_neg h4,h3,Result.andThen_ok,Sem.run_pure]
 rfl
theorem or_low (a b : Int) (h0 : 0 ≤ b) (h1 : b < 256) : ((BitVec.ofInt 64 (wrap64 (a * 256)) ||| BitVec.ofInt 64 b).toNat : Int) = (a * 256 + b) % 18446744073709551616 := by
 rw [BitVec.toNat_or,BitVec.toNat_ofInt,BitVec.toNat_ofInt]
 have e1 : (wrap64 (a * 256) % ((2 ^ 64 : Nat) : Int)).toNat = (a % 72057594037927936).toNat * 2 ^ 8 := by
  unfold wrap64
  omega
 have e2 : (b % ((2 ^ 64 : Nat) : Int)).toNat = b.toNat := by omega
 rw [e1,e2,← Nat.shiftLeft_eq,← Nat.shiftLeft_add_eq_or_of_lt (by omega),Nat.shiftLeft_eq]
 omega
theorem opn_or8 {t t' : TypeId} {x y : Go.Operand} {a b c : Int} (hx : Ev σ x (.im (IV.int c))) (hy : Ev σ y (.im (IV.int b))) (hc : c = wrap64 (a * 2 ^ 8)) (h0 : 0 ≤ b) (h1 : b < 256) : OpN C ⟨d,.binOp .or t x y t',ty,pos,after,gu⟩ σ (.im (IV.int (wrap64 (a * 256 + b)))) := OpN.pure fun ρ μ ac w hl ha => by
 have e1 := hx.val hl (by simp [Op.operands])
 have e2 := hy.val hl (by simp [Op.operands])
 refine ⟨_,?_,oi.2 rfl⟩
 have e3 : (Op.intBits .or .i64 c b).run C.P w = .ok (.int .i64 (wrap64 (a * 256 + b))) w := by
  show (pure (Value.int .i64 (IntKind.i64.wrap ((BitVec.ofInt 64 c ||| BitVec.ofInt 64 b).toNat : Int))) : Sem Value).run C.P w = _
  rw [hc,show a * 2 ^ 8 = a * 256 from rfl,or_low a b h0 h1,wrap_i64,Sem.run_pure]
  congr 2
  unfold wrap64
  omega
 simp [execOp,e1,e2,ox,binOp,e3]
theorem opn_toStr {src dst e : TypeId} {x : Go.Operand} {l : List UInt8} (hs : undY C src = some e) (hd : undS C dst = true) (hx : Ev σ x (.im (bytesV l))) : OpN C ⟨d,.convert src dst x,ty,pos,after,gu⟩ σ (.im (IV.str l)) := OpN.pure fun ρ μ ac w hl ha => by
 obtain ⟨A,c,h1,_,_,h2⟩ := hx.im hl (by simp [Op.operands])
 obtain ⟨u1,u2⟩ := undY_at hs
 refine ⟨_,?_,oi.2 rfl⟩
 rcases h2 with rfl | ⟨b,o,rfl,h2⟩
 ·cases A with
  | none =>
   simp only [execOp,h1,Sem.run_bind,run_convert_bytes_string w src dst e none _ c u1 u2 (qt hd),Conv.bytesToString,Sem.run_pure,Result.andThen_ok]
   rfl
  | some A =>
   have h3 := run_convert_bytes_back (P := C.P) w src dst e A c [] u1 u2 (qt hd) (fun j hj => by simp at hj)
   simp only [execOp,h1,Sem.run_bind,h3,Result.andThen_ok,Sem.run_pure]
   rfl
 ·have h3 := run_convert_bytes_back (P := C.P) w src dst e ⟨b,o,none⟩ c l u1 u2 (qt hd) (fun j hj => by
   obtain ⟨cs,v,k1,k2,k3,_⟩ := h2 j _ (List.getElem?_eq_getElem hj) 0 _ rfl
   obtain ⟨t',fz,hh⟩ := ha b cs k1
   have h4 : (⟨b,o,none⟩ : Addr).add j = ⟨b,o + j,none⟩ := by by_cases h0 : j = 0 <;> simp [Addr.add,h0]
   rw [h4]
   simp only [World.cell?,hh]
   rw [Nat.mul_one,Nat.add_zero] at k2
   rw [k2,show v = _ from k3]
   rfl)
  simp only [execOp,h1,Sem.run_bind,h3,Result.andThen_ok,Sem.run_pure]
  rfl
theorem wrap_u8 (n : Int) : IntKind.wrap .u8 n = ((byteOf n).toNat : Int) := by
 rw [uS,IntKind.wrap_u8]
theorem y1 {src dst : TypeId} {x : Go.Operand} {n : Int} (hs : (C.P.underlying src).isSome = true) (hd : C.P.underlying dst = some (.int (C.P.intKind dst))) (hk : C.P.intKind dst = .u8) (hx : Ev σ x (.im (IV.int n))) : OpN C ⟨d,.convert src dst x,ty,pos,after,gu⟩ σ (.im (IV.val (.int .u8 ((byteOf n).toNat : Int)))) := opn_conv hs hd hk (wrap_u8 n) hx
theorem oZ {src dst : TypeId} {x : Go.Operand} {b : UInt8} (hs : (C.P.underlying src).isSome = true) (hd : C.P.underlying dst = some (.int (C.P.intKind dst))) (hk : C.P.intKind dst = .i64) (hx : Ev σ x (.im (IV.val (.int .u8 (b.toNat : Int))))) : OpN C ⟨d,.convert src dst x,ty,pos,after,gu⟩ σ (.im (IV.int (b.toNat : Int))) := opn_conv hs hd hk (by rw [wrap_i64];have := UInt8.toNat_lt b;unfold wrap64;omega) hx
theorem opn_mkIface0 {xt : TypeId} {x : Go.Operand} (hc : C.P.concrete xt = true) (hx : Ev σ x (.agg [])) : OpN C ⟨d,.makeInterface xt x,ty,pos,after,gu⟩ σ (.im (IV.val (.iface xt (.agg #[])))) := OpN.pure fun ρ μ a w hl ha => by
 have h1 := hx.at hl (by simp [Op.operands])
 unfold SV.R at h1
 obtain ⟨vs,e,h2,_⟩ := h1
 unfold SV.Rs at h2
 subst h2
 refine ⟨_,?_,oi.2 rfl⟩
 simp only [execOp,e,Sem.run_bind,run_makeInterface w xt _ hc,Result.andThen_ok,Sem.run_pure]
theorem jI {t : TypeId} {x ix : Go.Operand} {n : Nat} {l : List SV} {i : Int} (hk : slE C t = some 1) (hx : Ev σ x (.pk n l)) (hi : Ev σ ix (.im (IV.int i))) (h0 : 0 ≤ i) (h1 : i < n) : OpN C ⟨d,.indexAddr t x ix,ty,pos,after,gu⟩ σ (.pp (l.drop i.toNat)) := OpN.pure fun ρ μ a w hl ha => by
 have h2 := hx.at hl (by simp [Op.operands])
 unfold SV.R at h2
 obtain ⟨b,vs,e,m,k,o⟩ := h2
 have h3 := hi.val hl (by simp [Op.operands])
 refine ⟨.pointer (some ⟨b,0 + i.toNat * 1,none⟩),?_,?_⟩
 ·simp only [execOp,Sem.run_bind,e,h3,jP hk w b 0 n n i .i64 h0 h1,Result.andThen_ok,Sem.run_pure]
 ·unfold SV.R
  refine ⟨b,0 + i.toNat * 1,vs,rfl,m,?_,?_⟩
  ·rw [Nat.zero_add,Nat.mul_one];exact k.drop _
  ·intro u hu;exact o u (List.mem_of_mem_drop hu)
theorem oe {t : TypeId} {x : Go.Operand} {dt : TyInf} {l : List SV} {s : SV} (ht : C.tt t = some dt) (hag : aggB dt.und = false) (hx : Ev σ x (.pp l)) (hs : l.head? = some s) : OpN C ⟨d,.load t x,ty,pos,after,gu⟩ σ s := OpN.pure fun ρ μ a w hl ha => by
 have h2 := hx.at hl (by simp [Op.operands])
 unfold SV.R at h2
 obtain ⟨b,q,us,e,m,k,o⟩ := h2
 cases l with
 | nil => cases hs
 | cons s0 l =>
  injection hs with hs
  subst hs
  unfold SV.Rs at k
  obtain ⟨v,vs',e2,k1,_⟩ := k
  obtain ⟨t',fz,hh⟩ := ha b _ m
  have hcell : w.cell? ⟨b,q,none⟩ = some v := by
   simp only [World.cell?,hh,List.getElem?_toArray]
   have := congrArg List.head? e2
   simpa [List.head?_drop] using this
  refine ⟨v,?_,k1⟩
  have hT := C.ok _ _ ht
  simp only [execOp,e,Instr.loadAt,Instr.sureAddr,loadVar,Sem.run_bind,Sem.run_pure,Result.andThen_ok,hT.agg w,hag,if_false,Bool.false_eq_true,run_load,hcell]
theorem opn_lenPk {t : TypeId} {x : Go.Operand} {n k' : Nat} {l : List SV} (hk : slE C t = some k') (hx : Ev σ x (.pk n l)) : OpN C ⟨d,.call { callee := .builtin .len,args := #[x],argTypes := #[t] },ty,pos,after,gu⟩ σ (.im (IV.int n)) := OpN.pure fun ρ μ a w hl ha => by
 have h2 := hx.at hl (by simp [Op.operands,Call.operands])
 unfold SV.R at h2
 obtain ⟨b,vs,e,_⟩ := h2
 obtain ⟨el,de,h9,_,_⟩ := slE_at hk
 refine ⟨_,?_,oi.2 rfl⟩
 simp [execOp,resolve,invoke,builtin,e,Builtin.len_,goInt,run_underlying h9]
end
section
variable {C : Cfg} {σ : Env} {H : List Ent} {fr : Nat} {d : Option Tmp} {ty : TypeId} {pos : String} {after : Array Edge} {gu : Option (Nat × Bool)}
theorem opa_slitRow {α : Type} (enc : α → List IV) (xs : List α) {l : List IV} {t et : TypeId} {de : TyInf} {n k : Nat} {ps : List (Nat × Go.Operand)} {out : List SV} (hT : slT C t = some (et,de)) (hk : de.size = k) (hz : Nat.beq de.zero.cells.size k = true) (hk0 : Nat.blt 0 k = true) (h1 : oneB de.zero.cells.toList = true) (hn : Nat.ble (n * k) 16777216 = true)
 (hp : Parts σ (fun i => some (i * k,k)) (repS (zeroS de.zero) n) ps out) (hi : ims out = some l) (hl0 : l = xs.flatMap enc) (hkk : ∀ a,(enc a).length = k) (hln : xs.length = n) : OpA C ⟨d,.buildSlice t n ps.toArray,ty,pos,after,gu⟩ σ fr (.row fr n) (.row et k enc xs) := OpA.of rfl fun ρ μ a w hl ha hfr => by
 obtain ⟨hu,hTe⟩ := jd hT
 subst hk
 have hzl : de.zero.cells.size = de.size := Nat.eq_of_beq_eq_true hz
 have hpos : 0 < de.size := Nat.blt_eq ▸ hk0
 have hev : ∀ p ∈ ps,∀ s,Ev σ p.2 s → SV.R ρ μ s (a.eval p.2) := fun p hp s hs => hs.at hl (by simp [Op.operands];exact ⟨p.1,hp⟩)
 let us : Array Value := if n * de.size = 0 then #[] else (Array.range (n * de.size)).map (de.zero.cells[· % de.zero.cells.size]!)
 have hus : us = (Array.range (n * de.size)).map (de.zero.cells[· % de.zero.cells.size]!) := by
  show (if n * de.size = 0 then #[] else _) = _
  split
  ·rename_i h;rw [h];simp
  ·rfl
 have hrep : ∀ n,(repS (zeroS de.zero) n).length = n * de.size ∧ ∀ j s,(repS (zeroS de.zero) n)[j]? = some s → s = SV.im (IV.val (de.zero.cells[j % de.zero.cells.size]!)) := by
  intro n
  have hzz : (zeroS de.zero).length = de.size := by simp [zeroS,hzl]
  induction n with
  | zero => exact ⟨by simp [repS],fun j s h => by simp [repS] at h⟩
  | succ n ih =>
   refine ⟨by simp only [repS,List.length_append,hzz,ih.1];rw [Nat.add_mul];omega,fun j s h => ?_⟩
   simp only [repS] at h
   rcases Nat.lt_or_ge j de.size with hj | hj
   ·rw [List.getElem?_append_left (by omega)] at h
    unfold zeroS at h
    rw [List.getElem?_map,Option.map_eq_some_iff] at h
    obtain ⟨u,h2,rfl⟩ := h
    rw [hzl,Nat.mod_eq_of_lt hj]
    congr 2
    rw [Array.getElem?_toList] at h2
    simp [getElem!_def,h2]
   ·rw [List.getElem?_append_right (by omega),hzz] at h
    rw [ih.2 _ s h,hzl,Nat.mod_eq_sub_mod hj]
 have hR : SV.Rs ρ μ (repS (zeroS de.zero) n) us.toList ∧ One us.toList := by
  have key : ∀ (l : List SV) (vs : List Value),l.length = vs.length → (∀ (j : Nat) (s : SV) (v : Value),l[j]? = some s → vs[j]? = some v → SV.R ρ μ s v) → SV.Rs ρ μ l vs := by
   intro l
   induction l with
   | nil => intro vs h _;have : vs = [] := List.eq_nil_of_length_eq_zero (by simpa using h.symm);unfold SV.Rs;exact this
   | cons s l ih =>
    intro vs h h2
    cases vs with
    | nil => simp at h
    | cons v vs => unfold SV.Rs;exact ⟨v,vs,rfl,h2 0 s v rfl rfl,ih vs (by simpa using h) fun j s' v' hs hv => h2 (j + 1) s' v' (by simpa using hs) (by simpa using hv)⟩
  rw [hus]
  refine ⟨key _ _ (by simp [(hrep n).1]) fun j s v hs hv => ?_,fun u hu => ?_⟩
  ·have hj : j < n * de.size := by rw [← (hrep n).1];exact (List.getElem?_eq_some_iff.1 hs).1
   rw [(hrep n).2 j s hs]
   simp [hj] at hv
   exact oi.2 hv.symm
  ·simp only [Array.toList_map,List.mem_map] at hu
   obtain ⟨j,hj,rfl⟩ := hu
   have hlt : j % de.zero.cells.size < de.zero.cells.size := Nat.mod_lt _ (by omega)
   refine qI h1 _ ?_
   rw [getElem!_pos de.zero.cells _ hlt]
   exact Array.getElem_mem_toList hlt
 obtain ⟨us',h4,h5,h6⟩ := hp.fill (ρ := ρ) (μ := μ) (a := a) hev hR.1 hR.2
 have hle := Nat.le_of_ble_eq_true hn
 have hrun : (execOp a.eval ⟨d,.buildSlice t n ps.toArray,ty,pos,after,gu⟩).run C.P w = .ok (.value (.slice (some ⟨w.heap.size,0,none⟩) n n)) (w.alloc (.cells us' et)) := by
  simp only [execOp,Instr.buildSlice,Sem.run_bind,run_underlying hu,Result.andThen_ok,hTe.size w]
  rw [if_neg (by omega)]
  have hps : (Array.map (fun (x : Nat × Go.Operand) => (x.fst,a.eval x.snd)) ps.toArray).toList = ps.map fun p => (p.1,a.eval p.2) := by simp
  by_cases h0 : n * de.size = 0
  ·have h4' := h4
   rw [hus,h0] at h4'
   simp only [h0,if_true,Sem.run_bind,Sem.run_pure,Result.andThen_ok,hps]
   have e0 : Array.map (fun x => (#[] : Array Value)[x % (#[] : Array Value).size]!) (Array.range 0) = Array.map (fun x => de.zero.cells[x % de.zero.cells.size]!) (Array.range 0) := by simp
   rw [e0,h4']
   simp [newRow,newObj,Sem.run]
  ·have h4' := h4
   rw [hus] at h4'
   simp only [if_neg h0,Sem.run_bind,Sem.run_pure,Result.andThen_ok,hps,hTe.zero w,h4']
   simp [newRow,newObj,Sem.run]
 have hs := Stp.alloc (μ := μ) ha (.cells us' et)
 have hno : μ w.heap.size = none := by
  cases e : μ w.heap.size with
  | none => rfl
  | some q => exact absurd (ha.lt (b := w.heap.size) (by rw [e];simp)) (Nat.lt_irrefl _)
 have h7 : IVs μ l us'.toList := by rw [jW hi] at h5;exact SV.Rs.im.1 h5
 have h8 : us'.toList.length = n * de.size := by
  rw [h7.length,hl0,← hln]
  clear hl0 hln hi h7
  induction xs with
  | nil => simp
  | cons x xs ih => rw [List.flatMap_cons,List.length_append,hkk,List.length_cons,Nat.add_mul,ih];omega
 have h9 : us'.size = n * de.size := by simpa using h8
 have hnn : n ≤ n * de.size := Nat.le_mul_of_pos_right n hpos
 unfold Oper.wp
 rw [hrun]
 refine ⟨_,μ,rfl,?_,⟨_,us'.toList,oY _ _ _,⟨by rw [h8,hln],.inr ⟨w.heap.size,n,us',by rw [hln],Nat.zero_le _,heap_alloc_new w _,by omega,by unfold maxLen;omega,h9,by rw [hln];exact List.take_of_length_le (by omega)⟩⟩,?_,hkk,fun g hg => ?_,h6⟩,fun g hg => ?_,hs⟩
 ·unfold SV.R;exact ⟨oY _ _ _,_,n,rfl,.inr ⟨_,rfl⟩⟩
 ·show IVs μ (xs.flatMap enc) us'.toList
  rw [← hl0];exact h7
 ·simp only [Value.ownBlock,Option.some.injEq] at hg;subst hg;exact hno
 ·simp only [blk,Option.some.injEq] at hg;omega
end
end Go.Proofs.YtjgmbgfcffnanaaGreatDoor
