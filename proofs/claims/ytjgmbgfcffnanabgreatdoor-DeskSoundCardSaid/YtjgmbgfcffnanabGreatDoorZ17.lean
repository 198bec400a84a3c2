/- What is appended to an empty literal. No program. Operations on strings, bytes and shifted numbers. No condition. Operations: division, bytes compared and taken away, a string cut at both ends. No condition. The reference: numerals and words. What Go's library does for the desk, as contracts of the logic; some want to know what the library's variables hold from the begin. -/
import Derived.Laws.IdiomStrings
import Derived.Lib.AppendIntMem
import Derived.Lib.AtoiErrMem
import Derived.Test.YtjgmbgfcffnanabGreatDoorZ12
import Derived.Test.YtjgmbgfcffnanabGreatDoorZ13
import Derived.Test.YtjgmbgfcffnanabGreatDoorZ16
set_option maxRecDepth 100000
namespace Go.Proofs.YtjgmbgfcffnanabGreatDoor
open Go.RowKit
def bS (l : List UInt8) : ByteArray := ⟨l.toArray⟩
abbrev IV.str (l : List UInt8) : IV := IV.val (.string (bS l))
def cU8 (b : UInt8) : List IV := [IV.val (.int .u8 (b.toNat : Int))]
abbrev bytesV (l : List UInt8) : IV := IV.view 1 cU8 l
theorem bS_size (l : List UInt8) : (bS l).size = l.length := by simp [bS,ByteArray.size]
theorem bS_list (s : ByteArray) : bS s.data.toList = s := by simp [bS]
theorem toList_loop (s : ByteArray) : ∀ (n i : Nat) (r : List UInt8),s.size - i = n → ByteArray.toList.loop s i r = r.reverse ++ s.data.toList.drop i := by
 intro n
 induction n with
 | zero =>
  intro i r h
  unfold ByteArray.toList.loop
  rw [if_neg (by omega),List.drop_eq_nil_of_le (by simp only [Array.length_toList];exact Nat.le_of_sub_eq_zero h),List.append_nil]
 | succ n ih =>
  intro i r h
  have hi : i < s.size := by omega
  unfold ByteArray.toList.loop
  rw [if_pos hi,ih (i + 1) _ (by omega)]
  have hi' : i < s.data.toList.length := by simpa using hi
  rw [List.drop_eq_getElem_cons hi']
  have : s.get! i = s.data.toList[i] := by
   cases s with
   | mk d =>
    have hd : i < d.size := hi
    simp only [ByteArray.get!]
    simp [hd]
  rw [this]
  simp
theorem bS_toList (l : List UInt8) : (bS l).toList = l := by
 unfold ByteArray.toList
 rw [toList_loop (bS l) _ 0 [] rfl]
 simp [bS]
def undS (C : Cfg) (t : TypeId) : Bool := match C.tt t with
 | some dt => match dt.und with
  | .string => true
  | _ => false
 | none => false
theorem undS_at {C : Cfg} {t : TypeId} (h : undS C t = true) : C.P.underlying t = some .string := by
 unfold undS at h
 cases h1 : C.tt t with
 | none => simp [h1] at h
 | some dt =>
  simp only [h1] at h
  have h2 := (C.ok _ _ h1).und
  cases h3 : dt.und with
  | string => have := (C.ok _ _ h1).1;rw [h3] at this;exact this
  | _ => simp [h3] at h
def undY (C : Cfg) (t : TypeId) : Option TypeId := match C.tt t with
 | some dt => match dt.und with
  | .slice e => match C.tt e with
   | some de => match de.und with
    | .int .u8 => some e
    | _ => none
   | none => none
  | _ => none
 | none => none
theorem undY_at {C : Cfg} {t e : TypeId} (h : undY C t = some e) : C.P.underlying t = some (.slice e) ∧ C.P.underlying e = some (.int .u8) := by
 unfold undY at h
 cases h1 : C.tt t with
 | none => simp [h1] at h
 | some dt =>
  simp only [h1] at h
  have h2 := (C.ok _ _ h1).1
  cases h3 : dt.und with
  | slice e' =>
   simp only [h3] at h
   cases h4 : C.tt e' with
   | none => simp [h4] at h
   | some de =>
    simp only [h4] at h
    have h5 := (C.ok _ _ h4).1
    cases h6 : de.und with
    | int k =>
     simp only [h6] at h
     cases k <;> simp at h
     subst h
     rw [h3] at h2
     rw [h6] at h5
     exact ⟨h2,h5⟩
    | _ => simp [h6] at h
  | _ => simp [h3] at h
theorem SV.Rs.drop {ρ : Nms} {μ : Mem} : ∀ {l : List SV} {vs : List Value},SV.Rs ρ μ l vs → ∀ n,SV.Rs ρ μ (l.drop n) (vs.drop n)
 | l,vs,h,0 => h
 | [],vs,h,n + 1 => by unfold SV.Rs at h;subst h;simp [SV.Rs]
 | s :: l,vs,h,n + 1 => by
  unfold SV.Rs at h
  obtain ⟨v,vs',rfl,_,h2⟩ := h
  exact SV.Rs.drop h2 n
section
variable {C : Cfg} {σ : Env} {d : Option Tmp} {ty : TypeId} {pos : String} {after : Array Edge} {gu : Option (Nat × Bool)}
theorem opn_lenStr {t : TypeId} {x : Go.Operand} {l : List UInt8} (hk : undS C t = true) (hx : Ev σ x (.im (IV.str l))) : OpN C ⟨d,.call { callee := .builtin .len,args := #[x],argTypes := #[t] },ty,pos,after,gu⟩ σ (.im (IV.int l.length)) := OpN.pure fun ρ μ a w hl ha => by
 have h1 := hx.val hl (by simp [Op.operands,Call.operands])
 refine ⟨_,?_,R_im.2 rfl⟩
 simp [execOp,resolve,invoke,builtin,h1,Builtin.len_,goInt,run_underlying (undS_at hk),bS_size]
theorem opn_indexStr {t : TypeId} {x ix : Go.Operand} {l : List UInt8} {i : Int} {b : UInt8} (hk : undS C t = true) (hx : Ev σ x (.im (IV.str l))) (hi : Ev σ ix (.im (IV.int i))) (h0 : 0 ≤ i) (hb : l[i.toNat]? = some b) : OpN C ⟨d,.index t x ix,ty,pos,after,gu⟩ σ (.im (IV.val (.int .u8 (b.toNat : Int)))) := OpN.pure fun ρ μ a w hl ha => by
 have h1 := hx.val hl (by simp [Op.operands])
 have h2 := hi.val hl (by simp [Op.operands])
 refine ⟨_,?_,R_im.2 rfl⟩
 have h3 : (bS l)[i.toNat]? = some b := by
  have h4 : i.toNat < (bS l).size := by rw [bS_size];exact (List.getElem?_eq_some_iff.1 hb).1
  rw [getElem?_pos (bS l) i.toNat h4]
  have h5 := (List.getElem?_eq_some_iff.1 hb).2
  congr 1
 simp [execOp,Instr.index,asIntOf,h1,h2,run_underlying (undS_at hk),h0,h3]
theorem extract_drop (l : List UInt8) (k : Nat) (_ : k ≤ l.length) : (bS l).extract k (bS l).size = bS (l.drop k) := by
 apply ByteArray.ext
 rw [ByteArray.data_extract]
 apply Array.ext'
 simp [bS,ByteArray.size,List.take_of_length_le]
theorem opn_sliceStr {t : TypeId} {x y : Go.Operand} {l : List UInt8} {k : Nat} (hk : undS C t = true) (hx : Ev σ x (.im (IV.str l))) (hlo : Ev σ y (.im (IV.int (k : Int)))) (h1 : k ≤ l.length) : OpN C ⟨d,.slice t x (some y) none none,ty,pos,after,gu⟩ σ (.im (IV.str (l.drop k))) := OpN.pure fun ρ μ a w hl ha => by
 have e1 := hx.val hl (by simp [Op.operands])
 have e2 := hlo.val hl (by simp [Op.operands])
 refine ⟨_,?_,R_im.2 rfl⟩
 have e3 : (k : Int) ≤ ((bS l).size : Int) := by rw [bS_size];omega
 have e4 : k ≤ (bS l).size := by rw [bS_size];omega
 simp [execOp,Instr.sliceAt,Instr.slice,Instr.sliceBounds,Instr.sliceBound,asIntOf,e1,e2,run_underlying (undS_at hk),e4,extract_drop l k h1]
theorem run_eqGuard_str (op : BinOp) (t : TypeId) (x y : Go.Operand) (a b : ByteArray) (w : World) : (eqGuard op t x y (.string a) (.string b)).run C.P w = .ok () w := by
 unfold eqGuard;cases op <;> simp
def cmpS (op : BinOp) (a b : List UInt8) : Option Bool := match op with
 | .eql => some (a == b)
 | .neq => some (!(a == b))
 | _ => none
theorem opn_cmpS {op : BinOp} {t t' : TypeId} {x y : Go.Operand} {a b : List UInt8} {c : Bool} (hx : Ev σ x (.im (IV.str a))) (hy : Ev σ y (.im (IV.str b))) (hc : cmpS op a b = some c) : OpN C ⟨d,.binOp op t x y t',ty,pos,after,gu⟩ σ (.im (IV.bool c)) := OpN.pure fun ρ μ ac w hl ha => by
 have h1 := hx.val hl (by simp [Op.operands])
 have h2 := hy.val hl (by simp [Op.operands])
 refine ⟨_,?_,R_im.2 rfl⟩
 cases op with
 | eql =>
  have hc : some (a == b) = some c := hc
  injection hc with hc
  subst hc
  simp [execOp,h1,h2,run_eqGuard_str,binOp,Op.stringOp,bS_toList]
 | neq =>
  have hc : some (!(a == b)) = some c := hc
  injection hc with hc
  subst hc
  simp [execOp,h1,h2,run_eqGuard_str,binOp,Op.stringOp,bS_toList]
 | _ => cases hc
theorem bS_append (a b : List UInt8) : bS a ++ bS b = bS (a ++ b) := by
 apply ByteArray.ext
 rw [ByteArray.data_append]
 simp [bS]
theorem opn_addStr {t t' : TypeId} {x y : Go.Operand} {a b : List UInt8} (hx : Ev σ x (.im (IV.str a))) (hy : Ev σ y (.im (IV.str b))) (hl : a.length + b.length ≤ 9223372036854775807) : OpN C ⟨d,.binOp .add t x y t',ty,pos,after,gu⟩ σ (.im (IV.str (a ++ b))) := OpN.pure fun ρ μ ac w hlo ha => by
 have h1 := hx.val hlo (by simp [Op.operands])
 have h2 := hy.val hlo (by simp [Op.operands])
 refine ⟨_,?_,R_im.2 rfl⟩
 have h3 := run_string_add_sum (P := C.P) (w := w) (bS a) (bS b) (by rw [bS_size,bS_size];exact hl)
 simp [execOp,h1,h2,run_eqGuard_str,binOp,h3,bS_append]
theorem opn_shl {t t' : TypeId} {x y : Go.Operand} {a b : Int} {kd : IntKind} {n : Nat} (hx : Ev σ x (.im (IV.int a))) (hy : Ev σ y (.im (IV.val (.int kd b)))) (hb : b = (n : Int)) (hn : n ≤ 64) : OpN C ⟨d,.binOp .shl t x y t',ty,pos,after,gu⟩ σ (.im (IV.int (wrap64 (a * 2 ^ n)))) := OpN.pure fun ρ μ ac w hl ha => by
 have h1 := hx.val hl (by simp [Op.operands])
 have h2 := hy.val hl (by simp [Op.operands])
 subst hb
 refine ⟨_,?_,R_im.2 rfl⟩
 have h3 : min ((n : Int)).toNat (IntKind.bits .i64) = n := by
  show min ((n : Int)).toNat 64 = n
  rw [Int.toNat_natCast];omega
 have h4 : ¬ ((n : Int) < 0) := by omega
 simp only [execOp,h1,h2,Sem.run_bind,run_eqGuard_int,binOp,Op.shift,if_neg h4,h3,Result.andThen_ok,Sem.run_pure,wrap_i64]
theorem opn_shr {t t' : TypeId} {x y : Go.Operand} {a b : Int} {kd : IntKind} {n : Nat} (hx : Ev σ x (.im (IV.int a))) (hy : Ev σ y (.im (IV.val (.int kd b)))) (hb : b = (n : Int)) (hn : n ≤ 64) : OpN C ⟨d,.binOp .shr t x y t',ty,pos,after,gu⟩ σ (.im (IV.int (shrI a n))) := OpN.pure fun ρ μ ac w hl ha => by
 have h1 := hx.val hl (by simp [Op.operands])
 have h2 := hy.val hl (by simp [Op.operands])
 subst hb
 refine ⟨_,?_,R_im.2 rfl⟩
 have h3 : min ((n : Int)).toNat (IntKind.bits .i64) = n := by
  show min ((n : Int)).toNat 64 = n
  rw [Int.toNat_natCast];omega
 have h4 : ¬ ((n : Int) < 0) := by omega
 simp only [execOp,h1,h2,Sem.run_bind,run_eqGuard_int,binOp,Op.shift,if_neg h4,h3,Result.andThen_ok,Sem.run_pure]
 rfl
theorem or_low (a b : Int) (h0 : 0 ≤ b) (h1 : b < 256) : ((BitVec.ofInt 64 (wrap64 (a * 256)) ||| BitVec.ofInt 64 b).toNat : Int) = (a * 256 + b) % 18446744073709551616 := by
 rw [BitVec.toNat_or,BitVec.toNat_ofInt,BitVec.toNat_ofInt]
 have e1 : (wrap64 (a * 256) % ((2 ^ 64 : Nat) : Int)).toNat = (a % 72057594037927936).toNat * 2 ^ 8 := by
  unfold wrap64
  omega
 have e2 : (b % ((2 ^ 64 : Nat) : Int)).toNat = b.toNat := by omega
 rw [e1,e2,← Nat.shiftLeft_eq,← Nat.shiftLeft_add_eq_or_of_lt (by omega),Nat.shiftLeft_eq]
 omega
theorem opn_or8 {t t' : TypeId} {x y : Go.Operand} {a b c : Int} (hx : Ev σ x (.im (IV.int c))) (hy : Ev σ y (.im (IV.int b))) (hc : c = wrap64 (a * 2 ^ 8)) (h0 : 0 ≤ b) (h1 : b < 256) : OpN C ⟨d,.binOp .or t x y t',ty,pos,after,gu⟩ σ (.im (IV.int (wrap64 (a * 256 + b)))) := OpN.pure fun ρ μ ac w hl ha => by
 have e1 := hx.val hl (by simp [Op.operands])
 have e2 := hy.val hl (by simp [Op.operands])
 refine ⟨_,?_,R_im.2 rfl⟩
 have e3 : (Op.intBits .or .i64 c b).run C.P w = .ok (.int .i64 (wrap64 (a * 256 + b))) w := by
  show (pure (Value.int .i64 (IntKind.i64.wrap ((BitVec.ofInt 64 c ||| BitVec.ofInt 64 b).toNat : Int))) : Sem Value).run C.P w = _
  rw [hc,show a * 2 ^ 8 = a * 256 from rfl,or_low a b h0 h1,wrap_i64,Sem.run_pure]
  congr 2
  unfold wrap64
  omega
 simp [execOp,e1,e2,run_eqGuard_int,binOp,e3]
theorem opn_toStr {src dst e : TypeId} {x : Go.Operand} {l : List UInt8} (hs : undY C src = some e) (hd : undS C dst = true) (hx : Ev σ x (.im (bytesV l))) : OpN C ⟨d,.convert src dst x,ty,pos,after,gu⟩ σ (.im (IV.str l)) := OpN.pure fun ρ μ ac w hl ha => by
 obtain ⟨A,c,h1,_,_,h2⟩ := hx.im hl (by simp [Op.operands])
 obtain ⟨u1,u2⟩ := undY_at hs
 refine ⟨_,?_,R_im.2 rfl⟩
 rcases h2 with rfl | ⟨b,o,rfl,h2⟩
 ·cases A with
  | none =>
   simp only [execOp,h1,Sem.run_bind,run_convert_bytes_string w src dst e none _ c u1 u2 (undS_at hd),Conv.bytesToString,Sem.run_pure,Result.andThen_ok]
   rfl
  | some A =>
   have h3 := run_convert_bytes_back (P := C.P) w src dst e A c [] u1 u2 (undS_at hd) (fun j hj => by simp at hj)
   simp only [execOp,h1,Sem.run_bind,h3,Result.andThen_ok,Sem.run_pure]
   rfl
 ·have h3 := run_convert_bytes_back (P := C.P) w src dst e ⟨b,o,none⟩ c l u1 u2 (undS_at hd) (fun j hj => by
   obtain ⟨cs,v,k1,k2,k3,_⟩ := h2 j _ (List.getElem?_eq_getElem hj) 0 _ rfl
   obtain ⟨t',fz,hh⟩ := ha b cs k1
   have h4 : (⟨b,o,none⟩ : Addr).add j = ⟨b,o + j,none⟩ := by by_cases h0 : j = 0 <;> simp [Addr.add,h0]
   rw [h4]
   simp only [World.cell?,hh]
   rw [Nat.mul_one,Nat.add_zero] at k2
   rw [k2,show v = _ from k3]
   rfl)
  simp only [execOp,h1,Sem.run_bind,h3,Result.andThen_ok,Sem.run_pure]
  rfl
theorem wrap_u8 (n : Int) : IntKind.wrap .u8 n = ((byteOf n).toNat : Int) := by
 rw [toNat_byteOf,IntKind.wrap_u8]
theorem opn_toB {src dst : TypeId} {x : Go.Operand} {n : Int} (hs : (C.P.underlying src).isSome = true) (hd : C.P.underlying dst = some (.int (C.P.intKind dst))) (hk : C.P.intKind dst = .u8) (hx : Ev σ x (.im (IV.int n))) : OpN C ⟨d,.convert src dst x,ty,pos,after,gu⟩ σ (.im (IV.val (.int .u8 ((byteOf n).toNat : Int)))) := opn_conv hs hd hk (wrap_u8 n) hx
theorem opn_ofB {src dst : TypeId} {x : Go.Operand} {b : UInt8} (hs : (C.P.underlying src).isSome = true) (hd : C.P.underlying dst = some (.int (C.P.intKind dst))) (hk : C.P.intKind dst = .i64) (hx : Ev σ x (.im (IV.val (.int .u8 (b.toNat : Int))))) : OpN C ⟨d,.convert src dst x,ty,pos,after,gu⟩ σ (.im (IV.int (b.toNat : Int))) := opn_conv hs hd hk (by rw [wrap_i64];have := UInt8.toNat_lt b;unfold wrap64;omega) hx
theorem opn_mkIface0 {xt : TypeId} {x : Go.Operand} (hc : C.P.concrete xt = true) (hx : Ev σ x (.agg [])) : OpN C ⟨d,.makeInterface xt x,ty,pos,after,gu⟩ σ (.im (IV.val (.iface xt (.agg #[])))) := OpN.pure fun ρ μ a w hl ha => by
 have h1 := hx.at hl (by simp [Op.operands])
 unfold SV.R at h1
 obtain ⟨vs,e,h2,_⟩ := h1
 unfold SV.Rs at h2
 subst h2
 refine ⟨_,?_,R_im.2 rfl⟩
 simp only [execOp,e,Sem.run_bind,run_makeInterface w xt _ hc,Result.andThen_ok,Sem.run_pure]
theorem opn_indexPk {t : TypeId} {x ix : Go.Operand} {n : Nat} {l : List SV} {i : Int} (hk : slE C t = some 1) (hx : Ev σ x (.pk n l)) (hi : Ev σ ix (.im (IV.int i))) (h0 : 0 ≤ i) (h1 : i < n) : OpN C ⟨d,.indexAddr t x ix,ty,pos,after,gu⟩ σ (.pp (l.drop i.toNat)) := OpN.pure fun ρ μ a w hl ha => by
 have h2 := hx.at hl (by simp [Op.operands])
 unfold SV.R at h2
 obtain ⟨b,vs,e,m,k,o⟩ := h2
 have h3 := hi.val hl (by simp [Op.operands])
 refine ⟨.pointer (some ⟨b,0 + i.toNat * 1,none⟩),?_,?_⟩
 ·simp only [execOp,Sem.run_bind,e,h3,run_indexAt hk w b 0 n n i .i64 h0 h1,Result.andThen_ok,Sem.run_pure]
 ·unfold SV.R
  refine ⟨b,0 + i.toNat * 1,vs,rfl,m,?_,?_⟩
  ·rw [Nat.zero_add,Nat.mul_one];exact k.drop _
  ·intro u hu;exact o u (List.mem_of_mem_drop hu)
theorem opn_loadPp {t : TypeId} {x : Go.Operand} {dt : TyInf} {l : List SV} {s : SV} (ht : C.tt t = some dt) (hag : aggB dt.und = false) (hx : Ev σ x (.pp l)) (hs : l.head? = some s) : OpN C ⟨d,.load t x,ty,pos,after,gu⟩ σ s := OpN.pure fun ρ μ a w hl ha => by
 have h2 := hx.at hl (by simp [Op.operands])
 unfold SV.R at h2
 obtain ⟨b,q,us,e,m,k,o⟩ := h2
 cases l with
 | nil => cases hs
 | cons s0 l =>
  injection hs with hs
  subst hs
  unfold SV.Rs at k
  obtain ⟨v,vs',e2,k1,_⟩ := k
  obtain ⟨t',fz,hh⟩ := ha b _ m
  have hcell : w.cell? ⟨b,q,none⟩ = some v := by
   simp only [World.cell?,hh,List.getElem?_toArray]
   have := congrArg List.head? e2
   simpa [List.head?_drop] using this
  refine ⟨v,?_,k1⟩
  have hT := C.ok _ _ ht
  simp only [execOp,e,Instr.loadAt,Instr.sureAddr,loadVar,Sem.run_bind,Sem.run_pure,Result.andThen_ok,hT.agg w,hag,if_false,Bool.false_eq_true,run_load,hcell]
theorem opn_lenPk {t : TypeId} {x : Go.Operand} {n k' : Nat} {l : List SV} (hk : slE C t = some k') (hx : Ev σ x (.pk n l)) : OpN C ⟨d,.call { callee := .builtin .len,args := #[x],argTypes := #[t] },ty,pos,after,gu⟩ σ (.im (IV.int n)) := OpN.pure fun ρ μ a w hl ha => by
 have h2 := hx.at hl (by simp [Op.operands,Call.operands])
 unfold SV.R at h2
 obtain ⟨b,vs,e,_⟩ := h2
 obtain ⟨el,de,h9,_,_⟩ := slE_at hk
 refine ⟨_,?_,R_im.2 rfl⟩
 simp [execOp,resolve,invoke,builtin,e,Builtin.len_,goInt,run_underlying h9]
end
section
variable {C : Cfg} {σ : Env} {d : Option Tmp} {ty : TypeId} {pos : String} {after : Array Edge} {gu : Option (Nat × Bool)}
theorem opn_quoT {t t' : TypeId} {x y : Go.Operand} {a b c : Int} (hx : Ev σ x (.im (IV.int a))) (hy : Ev σ y (.im (IV.int b))) (h1 : b ≠ 0) (hc : wrap64 (a.tdiv b) = c) : OpN C ⟨d,.binOp .quo t x y t',ty,pos,after,gu⟩ σ (.im (IV.int c)) := OpN.pure fun ρ μ ac w hl ha => by
 have h2 := hx.val hl (by simp [Op.operands])
 have h3 := hy.val hl (by simp [Op.operands])
 refine ⟨_,?_,R_im.2 rfl⟩
 simp [execOp,h2,h3,run_eqGuard_int,binOp,Op.intDiv,h1,wrap_i64,hc]
theorem opn_remZ {t t' : TypeId} {x y : Go.Operand} {a b : Int} (hx : Ev σ x (.im (IV.int a))) (hy : Ev σ y (.im (IV.int b))) (h1 : b ≠ 0) : OpN C ⟨d,.binOp .rem t x y t',ty,pos,after,gu⟩ σ (.im (IV.int (a.tmod b))) := OpN.pure fun ρ μ ac w hl ha => by
 have h2 := hx.val hl (by simp [Op.operands])
 have h3 := hy.val hl (by simp [Op.operands])
 refine ⟨_,?_,R_im.2 rfl⟩
 simp [execOp,h2,h3,run_eqGuard_int,binOp,Op.intDiv,h1]
theorem extract_both (l : List UInt8) (i j : Nat) (_ : i ≤ j) (_ : j ≤ l.length) : (bS l).extract i j = bS ((l.take j).drop i) := by
 apply ByteArray.ext
 rw [ByteArray.data_extract]
 apply Array.ext'
 simp [bS,List.drop_take]
end
section
variable {C : Cfg} {F : Fx} {nt : Nat} {ops : Array Oper} {l : List Oper} {Q : Exit → St → Prop} {σ : Env} {H : List Ent} {fr : Nat} {d : Option Tmp} {op : Op} {ty : TypeId} {pos : String} {after : Array Edge} {s : SV}
theorem LX.g {j e : Nat} {b c : Bool} (h : gd b c = true → OpN C ⟨d,op,ty,pos,after,some (j,b)⟩ σ s) (hj : (ops[j]?).bind (·.dst) = some e) (hc : lk σ e = some (.im (IV.bool c))) (hd : dokD nt d = true) (t : LX C F nt ops l Q ⟨bnd d (.cnd (gd b c) s) σ,H,fr⟩) : LX C F nt ops (⟨d,op,ty,pos,after,some (j,b)⟩ :: l) Q ⟨σ,H,fr⟩ := .step (.g rfl hj hc gq_im hd h) t
end
theorem ref_Digits_pos (n : Int) (h0 : 0 ≤ n) (h1 : n ≤ 9223372036854775807) : Fn CC 6 [IV.int n] (IV.str (digs n)) := by
 obtain ⟨k,hk⟩ : ∃ k,n.toNat = k := ⟨_,rfl⟩
 induction k using Nat.strongRecOn generalizing n with
 | _ k ih =>
 have e1 : n.tdiv 10 = n / 10 := Int.tdiv_eq_ediv_of_nonneg (by omega)
 have e2 : n.tmod 10 = n % 10 := Int.tmod_eq_emod_of_nonneg (by omega)
 refine Fn.of_wp _ Tryz.func6 rfl (by kernel_rfl) Tryz.ntmps6 rfl ?_
 intro F hD hG
 (refine zR ?_;refine sA ?_;refine zN ?_)
 (refine zR ?_;(iterate 3 refine sA ?_);(iterate 2 refine gA ?_);refine sA ?_;refine zN ?_)
 refine zC (fun h => ?_) (fun h => ?_)
 ·exfalso;simp at h;omega
 refine zS ?_
 (refine zR ?_;(iterate 2 refine sA ?_);refine zN ?_)
 refine zC (fun h => ?_) (fun h => ?_)
 ·exfalso;simp at h;omega
 refine zS ?_
 (refine zR ?_;(iterate 2 refine sA ?_);refine zN ?_)
 refine zC (fun h => ?_) (fun h => ?_)
 ·have hs : n < 10 := by simpa using h
  have hr := digs_small h0 hs
  rw [hr]
  (refine zR ?_;(iterate 2 refine sA ?_);(first | refine ALK.n (opn_toB (by kernel_rfl) (by kernel_rfl) (by kernel_rfl) (eB rfl)) rfl ?_ | refine ALK.n (opn_ofB (by kernel_rfl) (by kernel_rfl) (by kernel_rfl) (eB rfl)) rfl ?_);refine ALK.n (opn_slit rfl rfl rfl rfl rfl rfl (Pc rfl (eB rfl) Cs.a rfl rfl Parts.nil) rfl) rfl ?_;refine ALK.n (opn_toStr (l := [byteOf (48 + n)]) rfl rfl (Ev.of (eB rfl) (ImOf.im (ILe.view rfl)))) rfl ?_;refine sA ?_;refine zN ?_)
  exact zT Tryz.results6
 ·refine zS ?_
  have hs : 10 ≤ n := by simp at h;omega
  have hr := digs_big hs
  have i1 := ih (n.tdiv 10).toNat (by omega) (n.tdiv 10) (by omega) (by omega) rfl
  have i2 := ih (n.tmod 10).toNat (by omega) (n.tmod 10) (by omega) (by omega) rfl
  have l1 := digs_len (n := n.tdiv 10) (by unfold I64;omega)
  have l2 := digs_len (n := n.tmod 10) (by unfold I64;omega)
  rw [hr]
  (refine zR ?_;refine sA ?_;refine ALK.n (opn_quoT (c := n.tdiv 10) (eB rfl) (eB rfl) (by decide) (by unfold wrap64;omega)) rfl ?_;refine ALK.n (opn_call i1 (Evs.cons Ev.a Evs.nil)) rfl ?_;refine sA ?_;refine ALK.n (opn_remZ (eB rfl) (eB rfl) (by decide)) rfl ?_;refine ALK.n (opn_call i2 (Evs.cons Ev.a Evs.nil)) rfl ?_;refine ALK.n (opn_addStr (eB rfl) (eB rfl) (by omega)) rfl ?_;refine sA ?_;refine zN ?_)
  exact zT Tryz.results6
theorem ref_Digits_neg (n : Int) (h0 : n < 0) (h1 : -9223372036854775808 ≤ n) : Fn CC 6 [IV.int n] (IV.str (digs n)) := by
 obtain ⟨k,hk⟩ : ∃ k,n.natAbs = k := ⟨_,rfl⟩
 induction k using Nat.strongRecOn generalizing n with
 | _ k ih =>
 refine Fn.of_wp _ Tryz.func6 rfl (by kernel_rfl) Tryz.ntmps6 rfl ?_
 intro F hD hG
 (refine zR ?_;refine sA ?_;refine zN ?_)
 (refine zR ?_;(iterate 3 refine sA ?_);(iterate 2 refine gA ?_);refine sA ?_;refine zN ?_)
 refine zC (fun h => ?_) (fun h => ?_)
 ·have hs : -10 < n := by simp at h;omega
  have hr := digs_neg h0
  have l1 := digs_len (n := -n) (by unfold I64;omega)
  rw [hr]
  (refine zR ?_;refine sA ?_;refine ALK.n (opn_neg (eB rfl) (by omega) (by omega)) rfl ?_;refine ALK.n (opn_call (ref_Digits_pos (-n) (by omega) (by omega)) (Evs.cons Ev.a Evs.nil)) rfl ?_;refine ALK.n (opn_addStr (a := [45]) (eB rfl) (eB rfl) (by simp;omega)) rfl ?_;refine sA ?_;refine zN ?_)
  exact zT Tryz.results6
 ·refine zS ?_
  have hs : n ≤ -10 := by simp at h;omega
  have hr := digs_negBig hs
  have e1 : n.tdiv 10 = -((-n).tdiv 10) := by rw [Int.neg_tdiv];omega
  have e2 : n.tmod 10 = -((-n).tmod 10) := by rw [Int.neg_tmod];omega
  have e3 : (-n).tdiv 10 = (-n) / 10 := Int.tdiv_eq_ediv_of_nonneg (by omega)
  have e4 : (-n).tmod 10 = (-n) % 10 := Int.tmod_eq_emod_of_nonneg (by omega)
  have i1 := ih (n.tdiv 10).natAbs (by omega) (n.tdiv 10) (by omega) (by omega) rfl
  have i2 := ref_Digits_pos (-(n.tmod 10)) (by omega) (by omega)
  have l1 := digs_len (n := n.tdiv 10) (by unfold I64;omega)
  have l2 := digs_len (n := -(n.tmod 10)) (by unfold I64;omega)
  (refine zR ?_;(iterate 2 refine sA ?_);refine zN ?_)
  refine zC (fun h => ?_) (fun h => ?_)
  ·rw [hr]
   (refine zR ?_;refine sA ?_;refine ALK.n (opn_quoT (c := n.tdiv 10) (eB rfl) (eB rfl) (by decide) (by unfold wrap64;omega)) rfl ?_;refine ALK.n (opn_call i1 (Evs.cons Ev.a Evs.nil)) rfl ?_;refine sA ?_;refine ALK.n (opn_remZ (eB rfl) (eB rfl) (by decide)) rfl ?_;refine ALK.n (opn_neg (eB rfl) (by omega) (by omega)) rfl ?_;refine ALK.n (opn_call i2 (Evs.cons Ev.a Evs.nil)) rfl ?_;refine ALK.n (opn_addStr (eB rfl) (eB rfl) (by omega)) rfl ?_;refine sA ?_;refine zN ?_)
   exact zT Tryz.results6
  ·exfalso;simp at h;omega
theorem ref_Digits_fn (n : Int) (h : I64 n) : Fn CC 6 [IV.int n] (IV.str (digs n)) := by
 unfold I64 at h
 by_cases h0 : n < 0
 ·exact ref_Digits_neg n h0 h.1
 ·exact ref_Digits_pos n (by omega) h.2
def cStr (l : List UInt8) : List IV := [IV.str l]
abbrev strsV (l : List (List UInt8)) : IV := IV.view 1 cStr l
def GV (M : Mem) (n : String) (cs : Array Value) : Prop := ∃ g,Tryz.prog.globalNamed n = some g ∧ M g = some cs
theorem GV.var {M μ : Mem} {w : World} {n : String} {cs : Array Value} (h : GV M n cs) (hle : Mem.le M μ) (ha : Agr μ w) : w.var? Tryz.prog n = some cs := by
 obtain ⟨g,h1,h2⟩ := h
 obtain ⟨t,fz,h3⟩ := ha g cs (hle g cs h2)
 unfold World.var?
 rw [h1,Option.bind_some,h3]
structure GlobM (M : Mem) : Prop where
 mx : ∃ m : Int,GV M "internal/bytealg.MaxLen" #[.int .i64 m]
 tab : GV M "internal/strconv.uint64pow10" (Lib.pow10Tab.map fun z => Value.int .u64 z).toArray
 syn : ∃ tp p,GV M "strconv.ErrSyntax" #[.iface tp p]
 rng : ∃ tp p,GV M "strconv.ErrRange" #[.iface tp p]
theorem Itoa_fn {M : Mem} (hM : GlobM M) (n : Int) (h : I64 n) : Fn CC 47 [IV.wth M (IV.int n)] (IV.str (digs n)) :=
 Fn.plain Tryz.func47 (by kernel_rfl) (by kernel_rfl) fun μ w vs ⟨v0,_,e0,⟨h0,hle⟩,e1⟩ ha => by
  subst e0 e1
  have h0 : v0 = .int .i64 n := h0
  subst h0
  refine (Tryz.strconv_Itoa n h.1 h.2 w (hM.tab.var hle ha)).mono ?_
  rintro e w' ⟨rfl,k,os,rfl⟩
  exact ⟨rfl,Lib.below_grow _ _ (Nat.le_refl _) k os⟩
theorem Itoa_small_fn (n : Int) (h0 : 0 ≤ n) (h1 : n ≤ 99) : Fn CC 47 [IV.int n] (IV.str (digs n)) :=
 Fn.plain Tryz.func47 (by kernel_rfl) (by kernel_rfl) fun μ w vs ⟨v0,_,e0,k0,e1⟩ ha => by
  subst e0 e1
  have k0 : v0 = .int .i64 n := k0
  subst k0
  obtain ⟨i,rfl⟩ : ∃ i : Nat,n = i := ⟨n.toNat,by omega⟩
  refine (Tryz.strconv_Itoa_small i (by omega) w).mono ?_
  rintro e w' ⟨rfl,rfl⟩
  refine ⟨?_,Below.refl _ _⟩
  have : digs (i : Int) = Lib.decDigits i := by
   show (if (i : Int) < 0 then _ else _) = _
   rw [if_neg (by omega)];rfl
  rw [this];rfl
def IV.errB (b : Bool) : IV := ⟨fun _ v => match b with
 | true => v = .nilIface
 | false => ∃ t u,v = .iface t u,fun _ h => h⟩
theorem Atoi_fn {M : Mem} (hM : GlobM M) (s : List UInt8) (hs : s.length ≤ 281474976710656) : Fn CC 79 [IV.wth M (IV.str s)] (IV.tup [IV.int (atN s),IV.errB (atB s)]) := by
 refine ⟨⟨_,Tryz.func79,by kernel_rfl,by kernel_rfl⟩,fun μ w vs ⟨v0,_,e0,⟨h0,hle⟩,e1⟩ ha => ?_⟩
 subst e0 e1
 have h0 : v0 = .string (bS s) := h0
 subst h0
 have hsz : (bS s).size ≤ 281474976710656 := by rw [bS_size];exact hs
 have fin : ∀ (w' : World) (u : Value),Below w.heap.size w w' → (IV.errB (atB s)).p μ u → ∃ v μ',Ending.returned (.tuple #[.int .i64 (atN s),u]) = .returned v ∧ (IV.tup [IV.int (atN s),IV.errB (atB s)]).p μ' v ∧ Stp μ w μ' w' :=
  fun w' u hb hu => ⟨_,μ,rfl,⟨[_,u],rfl,_,_,rfl,rfl,_,_,rfl,hu,rfl⟩,Stp.of_below ha hb⟩
 cases hr : Lib.atoiAll s with
 | ok v =>
  have hN : atN s = v := by unfold atN;rw [hr]
  have hB : atB s = true := by unfold atB;rw [hr]
  refine (Tryz.strconv_Atoi_ok (bS s) (by omega) v hr w).mono ?_
  rintro e w' ⟨rfl,hw⟩
  rw [← hN]
  refine fin w' _ ?_ (by rw [hB];rfl)
  rcases hw with rfl | ⟨t,rfl⟩
  ·exact Below.refl _ _
  ·exact Lib.bytesWorld_below _ _ _
 | range =>
  have hN : atN s = Lib.atoiSat s := by unfold atN;rw [hr]
  have hB : atB s = false := by unfold atB;rw [hr]
  obtain ⟨tp,p,hv⟩ := hM.rng
  refine (Tryz.strconv_Atoi_range_var (bS s) hsz hr tp p w (hv.var hle ha)).mono ?_
  rintro e w' ⟨N,rfl,_,_,hb⟩
  show ∃ v μ',Ending.returned (.tuple #[.int .i64 (Lib.atoiSat s),_]) = .returned v ∧ _
  rw [← hN]
  exact fin w' _ hb (by rw [hB];exact ⟨_,_,rfl⟩)
 | _ =>
  have hN : atN s = 0 := by unfold atN;rw [hr]
  have hB : atB s = false := by unfold atB;rw [hr]
  obtain ⟨tp,p,hv⟩ := hM.syn
  refine (Tryz.strconv_Atoi_syntax_var (bS s) hsz hr tp p w (hv.var hle ha)).mono ?_
  rintro e w' ⟨N,rfl,_,_,hb⟩
  rw [← hN]
  exact fin w' _ hb (by rw [hB];exact ⟨_,_,rfl⟩)
theorem split_pieces (s : List UInt8) : Lib.splitB ⟨#[32]⟩ 0 (Lib.countB (bS s) ⟨#[32]⟩) (bS s) = (splitS s).map bS := by
 have h1 := Lib.splitB_data ⟨#[32]⟩ 0 (Lib.countB (bS s) ⟨#[32]⟩) (bS s)
 have h2 : Lib.countB (bS s) ⟨#[32]⟩ = s.count 32 := Lib.count_one 32 s
 rw [h2] at h1 ⊢
 have h3 := h1.trans (split_is _ s (Nat.le_refl _))
 rw [← h3,List.map_map]
 conv => lhs;rw [← List.map_id (Lib.splitB _ _ _ _)]
 refine List.map_congr_left fun x _ => ?_
 exact (bS_list x).symm
theorem strs_new {μ : Mem} {w : World} (ha : Agr μ w) (l : List (List UInt8)) (hl : l.length ≤ 140737488355328) (t : TypeId) : ∃ μ',(strsV l).p μ' (.slice (some ⟨w.heap.size,0,none⟩) l.length l.length) ∧ Stp μ w μ' (w.alloc (.cells ((l.map bS).map Value.string).toArray t)) := by
 refine ⟨_,⟨_,_,rfl,Nat.le_refl _,by unfold maxLen;omega,.inr ⟨w.heap.size,0,rfl,fun i x hx => ?_⟩⟩,Stp.newCells ha _ t⟩
 intro j s hj
 have hj0 : j = 0 := by
  cases j with
  | zero => rfl
  | succ j => simp [cStr] at hj
 subst hj0
 have hs : s = IV.str x := by simpa [cStr] using hj.symm
 subst hs
 refine ⟨_,.string (bS x),by unfold Mem.add;rw [if_pos rfl],?_,rfl,rfl⟩
 simp [hx]
theorem Split_fn {M : Mem} (hM : GlobM M) (s : List UInt8) (hs : s.length ≤ 4294967280) : Fn CC 55 [IV.wth M (IV.str s),IV.str [32]] (strsV (splitS s)) := by
 refine ⟨⟨_,Tryz.func55,by kernel_rfl,by kernel_rfl⟩,fun μ w vs ⟨v0,_,e0,⟨h0,hle⟩,v1,_,e1,h1,e2⟩ ha => ?_⟩
 subst e0 e1 e2
 have h0 : v0 = .string (bS s) := h0
 have h1 : v1 = .string ⟨#[32]⟩ := h1
 subst h0 h1
 obtain ⟨m,hv⟩ := hM.mx
 refine (Tryz.strings_Split (bS s) ⟨#[32]⟩ m w (by rw [bS_size];omega) ((World.var?_cell (P := Tryz.prog) (by kernel_rfl) (hv.var hle ha) 0).trans rfl) (by decide)).mono ?_
 rintro e w' ⟨rfl,rfl⟩
 have hp := split_pieces s
 have hn : Lib.countB (bS s) ⟨#[32]⟩ + 1 = (splitS s).length := by
  have h1 := Lib.splitB_all ⟨#[32]⟩ (by decide) 0 _ (bS s) rfl
  rw [hp,List.length_map] at h1
  exact h1.symm
 rw [hp,hn]
 have hlen : (splitS s).length ≤ 140737488355328 := by
  have h2 : Lib.countB (bS s) ⟨#[32]⟩ = s.count 32 := Lib.count_one 32 s
  have h3 := List.count_le_length (a := (32 : UInt8)) (l := s)
  omega
 obtain ⟨μ',k1,k2⟩ := strs_new ha (splitS s) hlen 9
 exact ⟨_,μ',rfl,k1,k2⟩
theorem Join_fn (l : List (List UInt8)) (sep : List UInt8) (hl : l.length ≤ 140737488355328) (hb : (joinS sep l).length ≤ 140737488355328) : Fn CC 49 [strsV l,IV.str sep] (IV.str (joinS sep l)) :=
 Fn.plain Tryz.func49 (by kernel_rfl) (by kernel_rfl) fun μ w vs ⟨v0,_,e0,h0,v1,_,e1,h1,e2⟩ ha => by
  subst e0 e1 e2
  have h1 : v1 = .string (bS sep) := h1
  subst h1
  obtain ⟨A,c,rfl,hc,_,h0⟩ := h0
  rcases h0 with rfl | ⟨b,o,rfl,h0⟩
  ·refine (Tryz.strings_Join_none A c (bS sep) w).mono ?_
   rintro e w' ⟨rfl,rfl⟩
   exact ⟨rfl,Below.refl _ _⟩
  ·cases l with
   | nil =>
    refine (Tryz.strings_Join_none _ c (bS sep) w).mono ?_
    rintro e w' ⟨rfl,rfl⟩
    exact ⟨rfl,Below.refl _ _⟩
   | cons x0 l0 =>
    obtain ⟨l,hl0⟩ : ∃ l,l = x0 :: l0 := ⟨_,rfl⟩
    have h00 : l[0]? = some x0 := by rw [hl0];rfl
    rw [← hl0] at hl hb hc h0 ⊢
    have hcell : ∀ (j : Nat) x,(l.map bS)[j]? = some x → w.cell? ⟨b,o + j,none⟩ = some (.string x) := fun j x hj => by
     rw [List.getElem?_map,Option.map_eq_some_iff] at hj
     obtain ⟨y,hy,rfl⟩ := hj
     obtain ⟨cs,v,k1,k2,k3,_⟩ := h0 j y hy 0 (IV.str y) rfl
     have k3 : v = .string (bS y) := k3
     subst k3
     obtain ⟨t,fz,hh⟩ := ha b cs k1
     simp only [World.cell?,hh]
     simpa using k2
    have hbk : b < w.heap.size := by
     obtain ⟨cs,v,k1,_⟩ := h0 0 x0 h00 0 (IV.str x0) rfl
     exact ha.lt (by rw [k1];simp)
    have hmap : (l.map bS).map (fun x => x.data.toList) = l := by
     rw [List.map_map]
     conv => rhs;rw [← List.map_id l]
     exact List.map_congr_left fun x _ => rfl
    have hj : Lib.join ((l.map bS).map (·.data.toList)) (bS sep).data.toList = joinS sep l := by
     rw [hmap];exact joinS_is sep l
    have := Tryz.strings_Join b o c (l.map bS) (bS sep) w hcell hbk (by rw [List.length_map];exact hl) (by rw [List.length_map];exact hc) (by rw [hj];exact hb)
    rw [hj,List.length_map] at this
    exact this
theorem Count_fn (s : List UInt8) : Fn CC 14 [IV.str s,IV.str [10]] (IV.int (cntS s)) :=
 Fn.plain Tryz.func14 (by kernel_rfl) (by kernel_rfl) fun μ w vs ⟨v0,_,e0,h0,v1,_,e1,h1,e2⟩ ha => by
  subst e0 e1 e2
  have h0 : v0 = .string (bS s) := h0
  have h1 : v1 = .string ⟨#[10]⟩ := h1
  subst h0 h1
  refine (Tryz.strings_Count_one (bS s) 10 w).mono ?_
  rintro e w' ⟨rfl,rfl⟩
  exact ⟨rfl,Below.refl _ _⟩
theorem HasSuffix_fn (s : List UInt8) (hs : s.length ≤ 9223372036854775807) : Fn CC 15 [IV.str s,IV.str [10]] (IV.bool (decide (s.getLast? = some 10))) :=
 Fn.plain Tryz.func15 (by kernel_rfl) (by kernel_rfl) fun μ w vs ⟨v0,_,e0,h0,v1,_,e1,h1,e2⟩ ha => by
  subst e0 e1 e2
  have h0 : v0 = .string (bS s) := h0
  have h1 : v1 = .string ⟨#[10]⟩ := h1
  subst h0 h1
  refine (Tryz.strings_HasSuffix (bS s) ⟨#[10]⟩ w (by rw [bS_size];exact hs)).mono ?_
  rintro e w' ⟨rfl,rfl⟩
  exact ⟨by rw [← hasNL];rfl,Below.refl _ _⟩
theorem TrimSuffix_fn (u : List UInt8) (hs : u.length < 9223372036854775807) : Fn CC 20 [IV.str (u ++ [10]),IV.str [10]] (IV.str u) :=
 Fn.plain Tryz.func20 (by kernel_rfl) (by kernel_rfl) fun μ w vs ⟨v0,_,e0,h0,v1,_,e1,h1,e2⟩ ha => by
  subst e0 e1 e2
  have h0 : v0 = .string (bS (u ++ [10])) := h0
  have h1 : v1 = .string ⟨#[10]⟩ := h1
  subst h0 h1
  refine (Tryz.strings_TrimSuffix (bS (u ++ [10])) ⟨#[10]⟩ w (by rw [bS_size,List.length_append,List.length_singleton];omega)).mono ?_
  rintro e w' ⟨rfl,rfl⟩
  refine ⟨?_,Below.refl _ _⟩
  have : Lib.trimSuffix (bS (u ++ [10])).data.toList (⟨#[10]⟩ : ByteArray).data.toList = u := trimNL u
  rw [this];rfl
end Go.Proofs.YtjgmbgfcffnanabGreatDoor
