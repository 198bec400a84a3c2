/- wire, without the program: what a plan is as bytes, and what is read from bytes. No condition. Small functions of package slices at ints, and choose. Equality of structs; SameTxns. -/
import Derived.Test.YtjgmbgfcffnanaaGreatDoorZ7
set_option maxRecDepth 100000
namespace Go.Proofs.YtjgmbgfcffnanaaGreatDoor
open Go.RowKit
def byteOf (n : Int) : UInt8 := UInt8.ofNat (n % 256).toNat
def shrI (n : Int) (k : Nat) : Int := n.fdiv (2 ^ k)
def sh8 (n : Int) (b : UInt8) : Int := wrap64 (n * 256 + b.toNat)
def eightB (n : Int) : List UInt8 := [byteOf (shrI n 56),byteOf (shrI n 48),byteOf (shrI n 40),byteOf (shrI n 32),byteOf (shrI n 24),byteOf (shrI n 16),byteOf (shrI n 8),byteOf (shrI n 0)]
def bInt (n : Int) : List UInt8 := [byteOf n]
def bOp (o : Operand) : List UInt8 := byteOf o.kind :: eightB o.n
def bGuard (g : Guard) : List UInt8 := byteOf g.kind :: (bOp g.a ++ bOp g.b)
def bSet (s : SetT) : List UInt8 := byteOf s.key :: byteOf s.op :: (bOp s.a ++ bOp s.b)
def bList {α : Type} (f : α → List UInt8) (l : List α) : List UInt8 := byteOf l.length :: l.flatMap f
def bTxn (t : Txn) : List UInt8 := bList bInt t.reads ++ (bList bGuard t.guards ++ bList bSet t.sets)
def bPlan (p : Plan) : List UInt8 := byteOf p.shards :: bList bTxn p.txns
abbrev Pr (α : Type) := List UInt8 → Option (α × List UInt8)
def numP (k : Nat) : Pr Int := fun s => if s.length < k then none else some ((s.take k).foldl sh8 0,s.drop k)
def andP {α β : Type} (p : Pr α) (f : α → Pr β) : Pr β := fun s => (p s).bind fun x => f x.1 x.2
def retP {α : Type} (x : α) : Pr α := fun s => some (x,s)
def opP : Pr Operand := andP (numP 1) fun k => andP (numP 8) fun n => retP ⟨k,n⟩
def guardP : Pr Guard := andP (numP 1) fun k => andP opP fun a => andP opP fun b => retP ⟨k,a,b⟩
def setP : Pr SetT := andP (numP 1) fun k => andP (numP 1) fun o => andP opP fun a => andP opP fun b => retP ⟨k,o,a,b⟩
def repP {α : Type} (p : Pr α) : Nat → Pr (List α)
 | 0 => retP []
 | n + 1 => andP p fun x => andP (repP p n) fun l => retP (x :: l)
def listP {α : Type} (p : Pr α) : Pr (List α) := andP (numP 1) fun n => repP p n.toNat
def txnP : Pr Txn := andP (listP (numP 1)) fun r => andP (listP guardP) fun g => andP (listP setP) fun s => retP ⟨r,g,s⟩
def planP : Pr Plan := andP (numP 1) fun k => andP (listP txnP) fun t => retP ⟨k,t⟩
abbrev Ey (α : Type) := List UInt8 → α × List UInt8
def andE {α β : Type} (p : Ey α) (f : α → Ey β) : Ey β := fun s => f (p s).1 (p s).2
def retE {α : Type} (x : α) : Ey α := fun s => (x,s)
def byteE : Ey Int := fun s => match s with | [] => (0,[]) | b :: r => (b.toNat,r)
def numE : Nat → Ey Int
 | 0 => retE 0
 | k + 1 => andE (numE k) fun n => andE byteE fun b => retE (wrap64 (n * 256 + b))
def opE : Ey Operand := andE byteE fun k => andE (numE 8) fun n => retE ⟨k,n⟩
def guardE : Ey Guard := andE byteE fun k => andE opE fun a => andE opE fun b => retE ⟨k,a,b⟩
def setE : Ey SetT := andE byteE fun k => andE byteE fun o => andE opE fun a => andE opE fun b => retE ⟨k,o,a,b⟩
def repE {α : Type} (p : Ey α) : Nat → Ey (List α)
 | 0 => retE []
 | n + 1 => andE (repE p n) fun l => andE p fun x => retE (l ++ [x])
def listE {α : Type} (p : Ey α) : Ey (List α) := andE byteE fun n => repE p n.toNat
def txnE : Ey Txn := andE (listE byteE) fun r => andE (listE guardE) fun g => andE (listE setE) fun s => retE ⟨r,g,s⟩
def planE' : Ey Plan := andE byteE fun k => andE (listE txnE) fun t => retE ⟨k,t⟩
theorem oG {α β : Type} {p : Pr α} {f : α → Pr β} {s : List UInt8} {y : β × List UInt8} : andP p f s = some y ↔ ∃ x r,p s = some (x,r) ∧ f x r = some y := by
 unfold andP
 rw [Option.bind_eq_some_iff]
 constructor
 ·rintro ⟨⟨x,r⟩,h1,h2⟩;exact ⟨x,r,h1,h2⟩
 ·rintro ⟨x,r,h1,h2⟩;exact ⟨(x,r),h1,h2⟩
theorem oF {α β : Type} {p : Pr α} {f : α → Pr β} {s r : List UInt8} {x : α} (h : p s = some (x,r)) : andP p f s = f x r := by
 unfold andP;rw [h];rfl
theorem andP_no {α β : Type} {p : Pr α} {f : α → Pr β} {s : List UInt8} (h : p s = none) : andP p f s = none := by
 unfold andP;rw [h];rfl
theorem yJ {α : Type} (p : Pr α) (n : Nat) (s : List UInt8) : repP p (n + 1) s = (andP (repP p n) fun l => andP p fun x => retP (l ++ [x])) s := by
 induction n generalizing s with
 | zero =>
  show andP p (fun x => andP (retP []) fun l => retP (x :: l)) s = andP p (fun x => retP ([] ++ [x])) s
  rfl
 | succ n ih =>
  rw [repP]
  unfold andP
  cases h : p s with
  | none => rw [repP];unfold andP;simp [h]
  | some y =>
   obtain ⟨x,r⟩ := y
   simp only [Option.bind_some]
   rw [ih r,repP]
   unfold andP
   rw [h]
   simp only [Option.bind_some]
   cases h2 : repP p n r with
   | none => simp
   | some z =>
    simp only [Option.bind_some]
    cases h3 : p z.2 with
    | none => simp [retP,h3]
    | some u => simp [retP,h3]
theorem v7 {α : Type} {p : Pr α} {n : Nat} {s : List UInt8} (h : repP p n s = none) (m : Nat) (hm : n ≤ m) : repP p m s = none := by
 induction m with
 | zero => cases Nat.le_zero.1 hm;exact h
 | succ m ih =>
  by_cases he : n = m + 1
  ·rw [← he];exact h
  ·rw [yJ];exact andP_no (ih (by omega))
theorem jR {α : Type} {p : Pr α} {n : Nat} {s r : List UInt8} {l : List α} (h : repP p n s = some (l,r)) : l.length = n := by
 induction n generalizing s l with
 | zero => rw [repP] at h;unfold retP at h;cases h;rfl
 | succ n ih =>
  rw [repP,oG] at h
  obtain ⟨x,r1,_,h⟩ := h
  rw [oG] at h
  obtain ⟨l1,r2,h1,h⟩ := h
  unfold retP at h;cases h
  rw [List.length_cons,ih h1]
theorem jO {α : Type} (p : Ey α) (n : Nat) (s : List UInt8) : (repE p n s).1.length = n := by
 induction n with
 | zero => rfl
 | succ n ih => rw [repE];unfold andE retE;simp [ih]
theorem qW {α : Type} (p : Ey α) (n : Nat) (s : List UInt8) : repE p (n + 1) s = ((repE p n s).1 ++ [(p (repE p n s).2).1],(p (repE p n s).2).2) := by
 rw [repE];rfl
theorem sh8_0 (b : UInt8) : sh8 0 b = b.toNat := by
 unfold sh8
 have := UInt8.toNat_lt b
 unfold wrap64;omega
theorem qO (b : UInt8) (s : List UInt8) : numP 1 (b :: s) = some ((b.toNat : Int),s) := by
 unfold numP
 simp [sh8_0]
theorem byteOf_toNat (b : UInt8) : byteOf (b.toNat : Int) = b := by
 have := UInt8.toNat_lt b
 unfold byteOf
 rw [show ((b.toNat : Int) % 256).toNat = b.toNat by omega]
 exact UInt8.ofNat_toNat
theorem uS {n : Int} : ((byteOf n).toNat : Int) = n % 256 := by
 unfold byteOf
 rw [UInt8.toNat_ofNat']
 omega
theorem toNat_byte {n : Int} (h0 : 0 ≤ n) (h1 : n < 256) : ((byteOf n).toNat : Int) = n := by
 rw [uS];omega
theorem byteOf_eq {n m : Int} (h : n % 256 = m % 256) : byteOf n = byteOf m := by
 unfold byteOf;rw [h]
theorem yT {n : Int} {b : UInt8} (h : n % 256 = b.toNat) : byteOf n = b := by
 rw [← byteOf_toNat b]
 apply byteOf_eq
 have := UInt8.toNat_lt b
 omega
theorem shr_div (n : Int) (k : Nat) : shrI n k = n / 2 ^ k := by
 unfold shrI
 exact Int.fdiv_eq_ediv_of_nonneg n (by exact Int.le_of_lt (Int.pow_pos (by decide)))
theorem fold_one (f : Int → UInt8 → Int) (z : Int) (a : UInt8) : [a].foldl f z = f z a := rfl
theorem fold_eight (f : Int → UInt8 → Int) (z : Int) (a b c d e g h i : UInt8) : [a,b,c,d,e,g,h,i].foldl f z = f (f (f (f (f (f (f (f z a) b) c) d) e) g) h) i := rfl
theorem eight_fold (a b c d e f g h : UInt8) : [a,b,c,d,e,f,g,h].foldl sh8 0 = wrap64 ((((((((a.toNat : Int) * 256 + b.toNat) * 256 + c.toNat) * 256 + d.toNat) * 256 + e.toNat) * 256 + f.toNat) * 256 + g.toNat) * 256 + h.toNat) := by
 rw [fold_eight,sh8_0]
 generalize (a.toNat : Int) = a
 have key : ∀ (x : Int) (b : UInt8),sh8 (wrap64 x) b = wrap64 (x * 256 + b.toNat) := by
  intro x b
  unfold sh8 wrap64
  generalize (b.toNat : Int) = y
  omega
 have k0 : ∀ (x : Int) (b : UInt8),sh8 x b = wrap64 (x * 256 + b.toNat) := fun _ _ => rfl
 rw [k0 a b,key,key,key,key,key,key]
theorem eightB_fold (a b c d e f g h : UInt8) : eightB ([a,b,c,d,e,f,g,h].foldl sh8 0) = [a,b,c,d,e,f,g,h] := by
 rw [eight_fold]
 have ha := UInt8.toNat_lt a
 have hb := UInt8.toNat_lt b
 have hc := UInt8.toNat_lt c
 have hd := UInt8.toNat_lt d
 have he := UInt8.toNat_lt e
 have hf := UInt8.toNat_lt f
 have hg := UInt8.toNat_lt g
 have hh := UInt8.toNat_lt h
 unfold eightB
 simp only [shr_div]
 rw [yT (b := a),yT (b := b),yT (b := c),yT (b := d),yT (b := e),yT (b := f),yT (b := g),yT (b := h)]
 all_goals (unfold wrap64;omega)
theorem fold_eightB {n : Int} (hn : I64 n) : (eightB n).foldl sh8 0 = n := by
 unfold eightB
 rw [eight_fold]
 simp only [uS,shr_div]
 unfold I64 at hn;unfold wrap64
 omega
def SubP {α : Type} (p : Pr α) (e : Ey α) : Prop := ∀ s y,p s = some y → e s = y
theorem yo {α β : Type} {p : Pr α} {e : Ey α} {f : α → Pr β} {g : α → Ey β} (h1 : SubP p e) (h2 : ∀ x,SubP (f x) (g x)) : SubP (andP p f) (andE e g) := by
 intro s y h
 rw [oG] at h
 obtain ⟨x,r,ha,hb⟩ := h
 unfold andE
 rw [h1 s _ ha]
 exact h2 x r y hb
theorem jk {α : Type} (x : α) : SubP (retP x) (retE x) := by
 intro s y h
 unfold retP at h;cases h;rfl
theorem qf : SubP (numP 1) byteE := by
 intro s y h
 cases s with
 | nil => cases h
 | cons b r => rw [qO] at h;cases h;rfl
theorem numE_fold (k : Nat) (s : List UInt8) (h : k ≤ s.length) : numE k s = ((s.take k).foldl sh8 0,s.drop k) := by
 induction k with
 | zero => rfl
 | succ k ih =>
  rw [numE]
  unfold andE
  rw [ih (by omega)]
  obtain ⟨b,t,ht⟩ : ∃ b t,s.drop k = b :: t := by
   cases hd : s.drop k with
   | nil => have := congrArg List.length hd;simp at this;omega
   | cons b t => exact ⟨b,t,rfl⟩
  have h1 : s.take (k + 1) = s.take k ++ [b] := by
   rw [List.take_add_one]
   congr 1
   have : s[k]? = some b := by
    have := congrArg List.head? ht
    simpa using this
   rw [this];rfl
  have h2 : s.drop (k + 1) = t := by
   rw [← List.drop_drop,ht];rfl
  rw [h1,h2,List.foldl_append,fold_one]
  show (wrap64 (((s.take k).foldl sh8 0) * 256 + ((byteE (s.drop k)).1)),(byteE (s.drop k)).2) = _
  rw [ht];rfl
theorem sub_num (k : Nat) : SubP (numP k) (numE k) := by
 intro s y h
 unfold numP at h
 split at h
 ·cases h
 ·rename_i hk
  cases h
  exact numE_fold k s (by omega)
theorem sub_op : SubP opP opE := yo qf fun _ => yo (sub_num 8) fun _ => jk _
theorem sub_guard : SubP guardP guardE := yo qf fun _ => yo sub_op fun _ => yo sub_op fun _ => jk _
theorem sub_set : SubP setP setE := yo qf fun _ => yo qf fun _ => yo sub_op fun _ => yo sub_op fun _ => jk _
theorem sub_rep {α : Type} {p : Pr α} {e : Ey α} (h : SubP p e) (n : Nat) : SubP (repP p n) (repE e n) := by
 induction n with
 | zero => exact jk _
 | succ n ih =>
  intro s y hy
  rw [yJ] at hy
  exact yo ih (fun _ => yo h fun _ => jk _) s y hy
theorem sub_list {α : Type} {p : Pr α} {e : Ey α} (h : SubP p e) : SubP (listP p) (listE e) := yo qf fun _ => sub_rep h _
theorem sub_txn : SubP txnP txnE := yo (sub_list qf) fun _ => yo (sub_list sub_guard) fun _ => yo (sub_list sub_set) fun _ => jk _
theorem sub_plan : SubP planP planE' := yo qf fun _ => yo (sub_list sub_txn) fun _ => jk _
def BkP {α : Type} (p : Pr α) (b : α → List UInt8) : Prop := ∀ s x r,p s = some (x,r) → s = b x ++ r
theorem vD : BkP (numP 1) bInt := by
 intro s x r h
 cases s with
 | nil => cases h
 | cons c s =>
  rw [qO] at h;cases h
  unfold bInt;rw [byteOf_toNat];rfl
theorem bk_eight : BkP (numP 8) eightB := by
 intro s x r h
 unfold numP at h
 split at h
 ·cases h
 ·rename_i hk
  cases h
  match s,hk with
  | a :: b :: c :: d :: e :: f :: g :: i :: s,_ =>
   show _ = eightB ([a,b,c,d,e,f,g,i].foldl sh8 0) ++ s
   rw [eightB_fold];rfl
  | [],hk => simp at hk
  | [_],hk => simp at hk
  | [_,_],hk => simp at hk
  | [_,_,_],hk => simp at hk
  | [_,_,_,_],hk => simp at hk
  | [_,_,_,_,_],hk => simp at hk
  | [_,_,_,_,_,_],hk => simp at hk
  | [_,_,_,_,_,_,_],hk => simp at hk
theorem qi {α : Type} {x y : α} {s r : List UInt8} : retP x s = some (y,r) ↔ x = y ∧ s = r := by
 unfold retP;simp
theorem bk_op : BkP opP bOp := by
 intro s x r h
 unfold opP at h
 obtain ⟨k,r1,h1,h⟩ := oG.1 h
 obtain ⟨n,r2,h2,h⟩ := oG.1 h
 obtain ⟨rfl,rfl⟩ := qi.1 h
 rw [vD _ _ _ h1,bk_eight _ _ _ h2];rfl
theorem bk_guard : BkP guardP bGuard := by
 intro s x r h
 unfold guardP at h
 obtain ⟨k,r1,h1,h⟩ := oG.1 h
 obtain ⟨a,r2,h2,h⟩ := oG.1 h
 obtain ⟨b,r3,h3,h⟩ := oG.1 h
 obtain ⟨rfl,rfl⟩ := qi.1 h
 rw [vD _ _ _ h1,bk_op _ _ _ h2,bk_op _ _ _ h3]
 show _ = byteOf k :: (bOp a ++ bOp b) ++ r3
 unfold bInt;simp
theorem bk_set : BkP setP bSet := by
 intro s x r h
 unfold setP at h
 obtain ⟨k,r1,h1,h⟩ := oG.1 h
 obtain ⟨o,r2,h2,h⟩ := oG.1 h
 obtain ⟨a,r3,h3,h⟩ := oG.1 h
 obtain ⟨b,r4,h4,h⟩ := oG.1 h
 obtain ⟨rfl,rfl⟩ := qi.1 h
 rw [vD _ _ _ h1,vD _ _ _ h2,bk_op _ _ _ h3,bk_op _ _ _ h4]
 show _ = byteOf k :: byteOf o :: (bOp a ++ bOp b) ++ r4
 unfold bInt;simp
theorem bk_rep {α : Type} {p : Pr α} {b : α → List UInt8} (hp : BkP p b) (n : Nat) : BkP (repP p n) (fun l => l.flatMap b) := by
 induction n with
 | zero => intro s x r h;obtain ⟨rfl,rfl⟩ := qi.1 h;rfl
 | succ n ih =>
  intro s x r h
  rw [repP] at h
  obtain ⟨y,r1,h1,h⟩ := oG.1 h
  obtain ⟨l,r2,h2,h⟩ := oG.1 h
  obtain ⟨rfl,rfl⟩ := qi.1 h
  rw [hp _ _ _ h1,ih _ _ _ h2];simp
theorem qb {s r : List UInt8} {n : Int} (h : numP 1 s = some (n,r)) : 0 ≤ n ∧ n < 256 := by
 cases s with
 | nil => cases h
 | cons c s =>
  rw [qO] at h;cases h
  have := UInt8.toNat_lt c
  omega
theorem bk_list {α : Type} {p : Pr α} {b : α → List UInt8} (hp : BkP p b) : BkP (listP p) (bList b) := by
 intro s x r h
 unfold listP at h
 obtain ⟨n,r1,h1,h⟩ := oG.1 h
 have hn := qb h1
 have hl := jR h
 rw [vD _ _ _ h1,bk_rep hp _ _ _ _ h]
 unfold bList
 rw [show (x.length : Int) = n by omega]
 rfl
theorem bk_txn : BkP txnP bTxn := by
 intro s x r h
 unfold txnP at h
 obtain ⟨k,r1,h1,h⟩ := oG.1 h
 obtain ⟨a,r2,h2,h⟩ := oG.1 h
 obtain ⟨b,r3,h3,h⟩ := oG.1 h
 obtain ⟨rfl,rfl⟩ := qi.1 h
 rw [bk_list vD _ _ _ h1,bk_list bk_guard _ _ _ h2,bk_list bk_set _ _ _ h3]
 unfold bTxn;simp
theorem bk_plan : BkP planP bPlan := by
 intro s x r h
 unfold planP at h
 obtain ⟨k,r1,h1,h⟩ := oG.1 h
 obtain ⟨a,r2,h2,h⟩ := oG.1 h
 obtain ⟨rfl,rfl⟩ := qi.1 h
 rw [vD _ _ _ h1,bk_list bk_txn _ _ _ h2]
 unfold bPlan bInt;simp
def FwP {α : Type} (p : Pr α) (b : α → List UInt8) (D : α → Prop) : Prop := ∀ x r,D x → p (b x ++ r) = some (x,r)
def IsB (x : Int) : Prop := 0 ≤ x ∧ x < 256
def OpD (o : Operand) : Prop := IsB o.kind ∧ I64 o.n
def GuardD (g : Guard) : Prop := IsB g.kind ∧ OpD g.a ∧ OpD g.b
def SetD (s : SetT) : Prop := IsB s.key ∧ IsB s.op ∧ OpD s.a ∧ OpD s.b
def ListD {α : Type} (D : α → Prop) (l : List α) : Prop := l.length < 256 ∧ ∀ x ∈ l,D x
def TxnD (t : Txn) : Prop := ListD IsB t.reads ∧ ListD GuardD t.guards ∧ ListD SetD t.sets
def PlanD (p : Plan) : Prop := IsB p.shards ∧ ListD TxnD p.txns
theorem vt : FwP (numP 1) bInt IsB := by
 intro x r h
 show numP 1 (byteOf x :: r) = _
 rw [qO,toNat_byte h.1 h.2]
theorem fw_eight : FwP (numP 8) eightB I64 := by
 intro x r h
 have h8 : (eightB x).length = 8 := rfl
 unfold numP
 rw [if_neg (by rw [List.length_append];omega),List.take_left' h8,List.drop_left' h8,fold_eightB h]
theorem fw_op : FwP opP bOp OpD := by
 intro x r h
 unfold opP
 rw [show bOp x ++ r = bInt x.kind ++ (eightB x.n ++ r) from rfl,oF (vt _ _ h.1),oF (fw_eight _ _ h.2)];rfl
theorem fw_guard : FwP guardP bGuard GuardD := by
 intro x r h
 unfold guardP
 rw [show bGuard x ++ r = bInt x.kind ++ (bOp x.a ++ (bOp x.b ++ r)) by unfold bGuard bInt;simp,oF (vt _ _ h.1),oF (fw_op _ _ h.2.1),oF (fw_op _ _ h.2.2)];rfl
theorem fw_set : FwP setP bSet SetD := by
 intro x r h
 unfold setP
 rw [show bSet x ++ r = bInt x.key ++ (bInt x.op ++ (bOp x.a ++ (bOp x.b ++ r))) by unfold bSet bInt;simp,oF (vt _ _ h.1),oF (vt _ _ h.2.1),oF (fw_op _ _ h.2.2.1),oF (fw_op _ _ h.2.2.2)];rfl
theorem fw_rep {α : Type} {p : Pr α} {b : α → List UInt8} {D : α → Prop} (hp : FwP p b D) (l : List α) (r : List UInt8) (h : ∀ x ∈ l,D x) : repP p l.length (l.flatMap b ++ r) = some (l,r) := by
 induction l with
 | nil => rfl
 | cons x l ih =>
  rw [List.length_cons,repP,List.flatMap_cons,List.append_assoc,oF (hp x _ (h x (by simp))),oF (ih fun y hy => h y (by simp [hy]))];rfl
theorem fw_list {α : Type} {p : Pr α} {b : α → List UInt8} {D : α → Prop} (hp : FwP p b D) : FwP (listP p) (bList b) (ListD D) := by
 intro l r h
 unfold listP
 have h1 := h.1
 rw [show bList b l ++ r = bInt (l.length : Int) ++ (l.flatMap b ++ r) from rfl,oF (vt _ _ ⟨by omega,by omega⟩)]
 exact fw_rep hp l r h.2
theorem fw_txn : FwP txnP bTxn TxnD := by
 intro x r h
 unfold txnP
 rw [show bTxn x ++ r = bList bInt x.reads ++ (bList bGuard x.guards ++ (bList bSet x.sets ++ r)) by unfold bTxn;simp,oF (fw_list vt _ _ h.1),oF (fw_list fw_guard _ _ h.2.1),oF (fw_list fw_set _ _ h.2.2)];rfl
theorem fw_plan : FwP planP bPlan PlanD := by
 intro x r h
 unfold planP
 rw [show bPlan x ++ r = bInt x.shards ++ (bList bTxn x.txns ++ r) by unfold bPlan bInt;simp,oF (vt _ _ h.1),oF (fw_list fw_txn _ _ h.2)];rfl
theorem len_op (o : Operand) : (bOp o).length = 9 := rfl
theorem qD (g : Guard) : (bGuard g).length = 19 := by unfold bGuard;simp [len_op]
theorem len_set (s : SetT) : (bSet s).length = 20 := by unfold bSet;simp [len_op]
theorem yy {α : Type} (b : α → List UInt8) (k : Nat) (l : List α) (h : ∀ x ∈ l,(b x).length ≤ k) : (l.flatMap b).length ≤ l.length * k := by
 induction l with
 | nil => simp
 | cons x l ih =>
  rw [List.flatMap_cons,List.length_append,List.length_cons,Nat.add_mul]
  have h1 := h x (by simp)
  have h2 := ih fun y hy => h y (by simp [hy])
  omega
theorem len_txn {t : Txn} (h1 : t.reads.length ≤ 4) (h2 : t.guards.length ≤ 2) (h3 : t.sets.length ≤ 3) : (bTxn t).length ≤ 105 := by
 have a := yy bInt 1 t.reads fun _ _ => Nat.le_refl _
 have b := yy bGuard 19 t.guards fun x _ => Nat.le_of_eq (qD x)
 have c := yy bSet 20 t.sets fun x _ => Nat.le_of_eq (len_set x)
 unfold bTxn bList
 simp only [List.length_append,List.length_cons]
 omega
def OkE {α : Type} (e : Ey α) (D : α → Prop) : Prop := ∀ s,D (e s).1
theorem uc : OkE byteE IsB := by
 intro s
 cases s with
 | nil => exact ⟨by decide,by decide⟩
 | cons b r =>
  have := UInt8.toNat_lt b
  show IsB (b.toNat : Int)
  unfold IsB;omega
theorem ok_num (k : Nat) : OkE (numE (k + 1)) I64 := by
 intro s
 show I64 (wrap64 ((numE k s).1 * 256 + (byteE (numE k s).2).1))
 exact I64.wrap _
theorem ok_op : OkE opE OpD := fun s => ⟨uc s,ok_num 7 _⟩
theorem ok_guard : OkE guardE GuardD := fun s => ⟨uc s,ok_op _,ok_op _⟩
theorem ok_set : OkE setE SetD := fun s => ⟨uc s,uc _,ok_op _,ok_op _⟩
theorem ok_rep {α : Type} {e : Ey α} {D : α → Prop} (h : OkE e D) (n : Nat) : OkE (repE e n) (fun l => ∀ x ∈ l,D x) := by
 induction n with
 | zero => intro s x hx;simp [repE,retE] at hx
 | succ n ih =>
  intro s x hx
  rw [qW] at hx
  rcases List.mem_append.1 hx with hx | hx
  ·exact ih s x hx
  ·rw [List.mem_singleton.1 hx];exact h _
theorem ok_list {α : Type} {e : Ey α} {D : α → Prop} (h : OkE e D) : OkE (listE e) (ListD D) := by
 intro s
 have h1 := uc s
 refine ⟨?_,ok_rep h _ _⟩
 show (repE e (byteE s).1.toNat (byteE s).2).1.length < 256
 rw [jO]
 unfold IsB at h1;omega
theorem ok_txn : OkE txnE TxnD := fun s => ⟨ok_list uc s,ok_list ok_guard _,ok_list ok_set _⟩
theorem ok_plan : OkE planE' PlanD := fun s => ⟨uc s,ok_list ok_txn _⟩
def GuardI (g : Guard) : Prop := I64 g.a.n ∧ I64 g.b.n
def SetI (s : SetT) : Prop := I64 s.a.n ∧ I64 s.b.n
def TxnI (t : Txn) : Prop := (∀ g ∈ t.guards,GuardI g) ∧ ∀ s ∈ t.sets,SetI s
def PlanI (p : Plan) : Prop := ∀ t ∈ p.txns,TxnI t
theorem yX {t : Txn} (h : checkTxn t = 0) : sizesOk t ∧ (∀ k ∈ t.reads ++ keysOf t,isKeyB k = true) ∧ ∀ e ∈ partErrs t,e = 0 := by
 unfold checkTxn at h
 split at h
 ·rename_i h1
  split at h
  ·rename_i h2
   split at h
   ·exact ⟨h1,List.all_eq_true.1 h2,fe_zero.1 h⟩
   ·cases h
  ·cases h
 ·cases h
theorem opD_of {o : Operand} {r : Int} (h : checkOp o.kind o.n r = 0) (hn : I64 o.n) : OpD o := by
 have h1 := (je h).2.2
 refine ⟨?_,hn⟩
 unfold IsB;omega
theorem holdsE_zero {k : Int} (h : holdsE k = 0) : 1 ≤ k ∧ k ≤ 4 := by
 unfold holdsE at h
 split at h
 ·assumption
 ·cases h
theorem reckonE_zero {k : Int} (h : reckonE k = 0) : 1 ≤ k ∧ k ≤ 6 := by
 unfold reckonE at h
 split at h
 ·assumption
 ·cases h
theorem isKeyB_at {k : Int} (h : isKeyB k = true) : 0 ≤ k ∧ k ≤ 7 := by
 unfold isKeyB at h
 simpa using h
theorem txnD_of {t : Txn} (h : checkTxn t = 0) (hi : TxnI t) : TxnD t := by
 obtain ⟨⟨h1,h2,h3,h4⟩,h5,h6⟩ := yX h
 refine ⟨⟨by omega,fun k hk => ?_⟩,⟨by omega,fun g hg => ?_⟩,⟨by omega,fun s hs => ?_⟩⟩
 ·have := isKeyB_at (h5 k (List.mem_append.2 (.inl hk)))
  unfold IsB;omega
 ·have h7 : ∀ e ∈ gErrs t.reads.length g,e = 0 := fun e he => h6 e (by unfold partErrs;exact List.mem_append.2 (.inl (List.mem_flatMap.2 ⟨g,hg,he⟩)))
  have a := holdsE_zero (h7 (holdsE g.kind) (by simp [gErrs]))
  have b := opD_of (h7 (checkOp g.a.kind g.a.n t.reads.length) (by simp [gErrs])) (hi.1 g hg).1
  have c := opD_of (h7 (checkOp g.b.kind g.b.n t.reads.length) (by simp [gErrs])) (hi.1 g hg).2
  exact ⟨by unfold IsB;omega,b,c⟩
 ·have h7 : ∀ e ∈ sErrs t.reads.length s,e = 0 := fun e he => h6 e (by unfold partErrs;exact List.mem_append.2 (.inr (List.mem_flatMap.2 ⟨s,hs,he⟩)))
  have a := reckonE_zero (h7 (reckonE s.op) (by simp [sErrs]))
  have b := opD_of (h7 (checkOp s.a.kind s.a.n t.reads.length) (by simp [sErrs])) (hi.2 s hs).1
  have c := opD_of (h7 (checkOp s.b.kind s.b.n t.reads.length) (by simp [sErrs])) (hi.2 s hs).2
  have k := isKeyB_at (h5 s.key (List.mem_append.2 (.inr (List.mem_map.2 ⟨s,hs,rfl⟩))))
  exact ⟨by unfold IsB;omega,by unfold IsB;omega,b,c⟩
theorem planD_of {p : Plan} (h : checkPlan p = 0) (hi : PlanI p) : PlanD p := by
 obtain ⟨h1,h2,h3⟩ := yQ h
 obtain ⟨h4,h5⟩ := y7 h3
 exact ⟨by unfold IsB;omega,by omega,fun t ht => txnD_of (h5 t ht) (hi t ht)⟩
theorem len_plan {p : Plan} (h : checkPlan p = 0) : (bPlan p).length ≤ 4096 := by
 obtain ⟨h1,h2,h3⟩ := yQ h
 obtain ⟨h4,h5⟩ := y7 h3
 have := yy bTxn 105 p.txns fun t ht => by
  obtain ⟨a,b,_,c⟩ := (yX (h5 t ht)).1
  exact len_txn a b c
 unfold bPlan bList
 simp only [List.length_cons]
 omega
theorem planD_B {p : Plan} (h : PlanD p) : TxsB p.txns := fun t ht => by
 have := (h.2.2 t ht).2.2.1
 unfold TxnB;omega
theorem planD_I {p : Plan} (h : PlanD p) : PlanI p := fun t ht => ⟨fun g hg => ⟨((h.2.2 t ht).2.1.2 g hg).2.1.2,((h.2.2 t ht).2.1.2 g hg).2.2.2⟩,fun s hs => ⟨((h.2.2 t ht).2.2.2 s hs).2.2.1.2,((h.2.2 t ht).2.2.2 s hs).2.2.2.2⟩⟩
theorem planP_D {b r : List UInt8} {p : Plan} (h : planP b = some (p,r)) : PlanD p := by
 have h1 := ok_plan b
 rw [sub_plan b _ h] at h1;exact h1
def zeroP : Plan := ⟨0,[]⟩
def readS (b : List UInt8) : Plan × Int :=
 if 4096 < b.length then (zeroP,2) else match planP b with
  | some (p,[]) => if checkPlan p = 0 then (p,0) else (zeroP,1)
  | _ => (zeroP,1)
def fromS (b : List UInt8) : Plan × Bool := if checkPlan (planE' b).1 = 0 ∧ bPlan (planE' b).1 = b then ((planE' b).1,true) else (zeroP,false)
theorem read_from {b : List UInt8} (h : ¬ 4096 < b.length) : readS b = ((fromS b).1,if (fromS b).2 = true then 0 else 1) := by
 unfold readS
 rw [if_neg h]
 unfold fromS
 by_cases hc : checkPlan (planE' b).1 = 0 ∧ bPlan (planE' b).1 = b
 ·rw [if_pos hc]
  have h1 := fw_plan _ [] (ok_plan b)
  rw [List.append_nil,hc.2] at h1
  rw [h1]
  simp only [hc.1,if_true]
 ·rw [if_neg hc]
  cases hp : planP b with
  | none => rfl
  | some y =>
   obtain ⟨p,r⟩ := y
   cases r with
   | cons _ _ => rfl
   | nil =>
    have h1 := sub_plan b _ hp
    have h2 := bk_plan _ _ _ hp
    rw [List.append_nil] at h2
    rw [h1] at hc
    have h3 : checkPlan p ≠ 0 := fun h3 => hc ⟨h3,h2.symm⟩
    simp only [h3,if_false]
    rfl
theorem read_write {p : Plan} (h : checkPlan p = 0) (hi : PlanI p) : readS (bPlan p) = (p,0) := by
 unfold readS
 rw [if_neg (by have := len_plan h;omega)]
 have h1 := fw_plan p [] (planD_of h hi)
 rw [List.append_nil] at h1
 rw [h1]
 simp only [h,if_true]
theorem write_read {b : List UInt8} {p : Plan} (h : readS b = (p,0)) : checkPlan p = 0 ∧ bPlan p = b ∧ PlanD p := by
 unfold readS at h
 split at h
 ·cases h
 ·split at h
  ·rename_i q hq
   split at h
   ·rename_i h1
    cases h
    have h2 := bk_plan _ _ _ hq
    rw [List.append_nil] at h2
    exact ⟨h1,h2.symm,planP_D hq⟩
   ·cases h
  ·cases h
theorem readS_B (b : List UInt8) : TxsB (readS b).1.txns := by
 unfold readS
 split
 ·intro t ht;cases ht
 ·split
  ·rename_i q hq
   split
   ·exact planD_B (planP_D hq)
   ·intro t ht;cases ht
  ·intro t ht;cases ht
theorem oM {α : Type} {l : List α} {k : Nat} {x : α} (h : l[k]? = some x) : l.take (k + 1) = l.take k ++ [x] := by
 rw [List.take_add_one,h];rfl
theorem eightB_take (n : Int) {j : Nat} (h : j < 8) : (eightB n).take (j + 1) = (eightB n).take j ++ [byteOf (shrI n (56 - 8 * j))] := by
 have : j = 0 ∨ j = 1 ∨ j = 2 ∨ j = 3 ∨ j = 4 ∨ j = 5 ∨ j = 6 ∨ j = 7 := by omega
 rcases this with rfl | rfl | rfl | rfl | rfl | rfl | rfl | rfl <;> rfl
theorem eightB_len (n : Int) : (eightB n).length = 8 := rfl
def idxP {α : Type} (p : α → Bool) (xs : List α) : Int := if xs.any p then (xs.findIdx p : Int) else -1
theorem idxP_ge {α : Type} (p : α → Bool) (xs : List α) : decide (idxP p xs ≥ 0) = xs.any p := by
 unfold idxP
 cases h : xs.any p with
 | true => simp
 | false => simp
theorem idxP_at {α : Type} {p : α → Bool} {xs : List α} {k : Nat} {x : α} (h : ∀ y ∈ xs.take k,p y = false) (hx : xs[k]? = some x) (hp : p x = true) : idxP p xs = k := by
 have hk : k < xs.length := (List.getElem?_eq_some_iff.1 hx).1
 have h1 : xs.any p = true := List.any_eq_true.2 ⟨x,List.mem_of_getElem? hx,hp⟩
 unfold idxP
 rw [if_pos h1]
 congr 1
 rw [List.findIdx_eq hk]
 refine ⟨by rw [List.getElem?_eq_getElem hk] at hx;injection hx with hx;rw [hx];exact hp,fun j hj => ?_⟩
 have := h xs[j] (by rw [List.mem_take_iff_getElem];exact ⟨j,by omega,rfl⟩)
 simp [this]
theorem qH {α : Type} {p : α → Bool} {xs : List α} (h : ∀ y ∈ xs,p y = false) : idxP p xs = -1 := by
 unfold idxP
 rw [if_neg]
 intro h1
 obtain ⟨x,hx,hp⟩ := List.any_eq_true.1 h1
 rw [h x hx] at hp;cases hp
theorem v8 {α : Type} {p : α → Bool} {xs : List α} {k : Nat} {x : α} (h : ∀ y ∈ xs.take k,p y = false) (hx : xs[k]? = some x) (hp : p x = false) : ∀ y ∈ xs.take (k + 1),p y = false := fun y hy => by
 rw [List.take_add_one,List.mem_append,hx] at hy
 rcases hy with hy | hy
 ·exact h y hy
 ·simp at hy;subst hy;exact hp
theorem Index_fn (xs : List Int) (v : Int) : Fn CC 202 [intsV xs,IV.int v] (IV.int (idxP (fun y => v == y) xs)) := by
 refine Fn.of_wp _ Tryz.func202 rfl (by kernel_rfl) Tryz.ntmps202 rfl ?_
 intro F hD hG
 refine WP.len 0 rfl (fun hl1 => ?_)
 (refine zR ?_;refine sA ?_;refine zN ?_)
 (refine zR ?_;(iterate 3 refine sA ?_);refine zN ?_)
 refine zB ?_
 refine WP.loop (fun k : Nat => ⟨[(8,.im (IV.int k)),(7,.im (IV.int xs.length)),(0,.im (intsV xs)),(1,.im (IV.int v))],[],0⟩) (fun k => k ≤ xs.length ∧ ∀ y ∈ xs.take k,(v == y) = false) (fun k => xs.length - k) 0 ⟨Nat.zero_le _,by simp⟩ (Shift.sub [] rfl SubE.a SubH.nil) ?_
 rintro k ⟨hk,he⟩
 (refine zR ?_;refine sA ?_;refine zN ?_)
 refine zC (fun h => ?_) (fun h => ?_)
 ·refine zS ?_
  have hlt : k < xs.length := by simpa using h
  obtain ⟨x,hx⟩ := oc hlt
  refine zB ?_
  (refine zR ?_;(iterate 2 refine sA ?_);refine zN ?_)
  (refine zR ?_;(iterate 6 refine sA ?_);refine zN ?_)
  refine zC (fun h => ?_) (fun h => ?_)
  ·(refine zR ?_;(iterate 2 refine sA ?_);refine zN ?_)
   have hr : idxP (fun y => v == y) xs = k := idxP_at he hx h
   exact zT Tryz.results202
  refine zS ?_
  (refine zR ?_;(iterate 2 refine sA ?_);refine zN ?_)
  show ∃ _,_ ∧ _ ∧ _
  exact ⟨k + 1,⟨by omega,v8 he hx h⟩,by omega,(Shift.sub [] rfl SubE.a SubH.nil)⟩
 ·refine zE ?_
  (refine zR ?_;refine sA ?_;refine zN ?_)
  have hr : idxP (fun y => v == y) xs = -1 := qH (by rw [List.take_of_length_le (by simp at h;omega)] at he;exact he)
  exact zT Tryz.results202
theorem jJ (xs : List Int) (v : Int) : Fn CC 199 [intsV xs,IV.int v] (IV.bool (xs.any (fun y => v == y))) := by
 refine Fn.of_wp _ Tryz.func199 rfl (by kernel_rfl) Tryz.ntmps199 rfl ?_
 intro F hD hG
 (refine zR ?_;refine sA ?_;refine zN ?_)
 (refine zR ?_;(iterate 2 refine sA ?_);refine ALK.n (o3 (Index_fn _ _) (Evs.cons Ev.a (Evs.cons Ev.a Evs.nil))) rfl ?_;(iterate 2 refine sA ?_);refine zN ?_)
 have hr : xs.any (fun y => v == y) = decide (idxP (fun y => v == y) xs ≥ 0) := (idxP_ge _ _).symm
 exact zT Tryz.results199
theorem IndexFunc_fn (xs : List Int) (f : FuncId) (caps : List IV) (p : Int → Bool) (hf : ∀ x ∈ xs,Fn CC f ([IV.int x] ++ caps) (IV.bool (p x))) : Fn CC 201 [intsV xs,IV.fn f caps] (IV.int (idxP p xs)) := by
 refine Fn.of_wp _ Tryz.func201 rfl (by kernel_rfl) Tryz.ntmps201 rfl ?_
 intro F hD hG
 refine WP.len 0 rfl (fun hl1 => ?_)
 (refine zR ?_;refine sA ?_;refine zN ?_)
 (refine zR ?_;(iterate 3 refine sA ?_);refine zN ?_)
 refine zB ?_
 refine WP.loop (fun k : Nat => ⟨[(8,.im (IV.int k)),(7,.im (IV.int xs.length)),(0,.im (intsV xs)),(1,.im (IV.fn f caps))],[],0⟩) (fun k => k ≤ xs.length ∧ ∀ y ∈ xs.take k,p y = false) (fun k => xs.length - k) 0 ⟨Nat.zero_le _,by simp⟩ (Shift.sub [] rfl SubE.a SubH.nil) ?_
 rintro k ⟨hk,he⟩
 (refine zR ?_;refine sA ?_;refine zN ?_)
 refine zC (fun h => ?_) (fun h => ?_)
 ·refine zS ?_
  have hlt : k < xs.length := by simpa using h
  obtain ⟨x,hx⟩ := oc hlt
  refine zB ?_
  (refine zR ?_;(iterate 2 refine sA ?_);refine zN ?_)
  (refine zR ?_;(iterate 5 refine sA ?_);refine ALK.n (oW (by first | exact Ev.base rfl | exact Ev.cnd rfl (by assumption)) (hf x (List.mem_of_getElem? hx)) (Evs.cons Ev.a Evs.nil)) rfl ?_;refine zN ?_)
  refine zC (fun h => ?_) (fun h => ?_)
  ·(refine zR ?_;(iterate 2 refine sA ?_);refine zN ?_)
   have hr : idxP p xs = k := idxP_at he hx h
   exact zT Tryz.results201
  refine zS ?_
  (refine zR ?_;(iterate 2 refine sA ?_);refine zN ?_)
  show ∃ _,_ ∧ _ ∧ _
  exact ⟨k + 1,⟨by omega,v8 he hx h⟩,by omega,(Shift.sub [] rfl SubE.a SubH.nil)⟩
 ·refine zE ?_
  (refine zR ?_;refine sA ?_;refine zN ?_)
  have hr : idxP p xs = -1 := qH (by rw [List.take_of_length_le (by simp at h;omega)] at he;exact he)
  exact zT Tryz.results201
theorem jp (xs : List Int) (f : FuncId) (caps : List IV) (p : Int → Bool) (hf : ∀ x ∈ xs,Fn CC f ([IV.int x] ++ caps) (IV.bool (p x))) : Fn CC 197 [intsV xs,IV.fn f caps] (IV.bool (xs.any p)) := by
 refine Fn.of_wp _ Tryz.func197 rfl (by kernel_rfl) Tryz.ntmps197 rfl ?_
 intro F hD hG
 (refine zR ?_;refine sA ?_;refine zN ?_)
 (refine zR ?_;(iterate 2 refine sA ?_);refine ALK.n (o3 (IndexFunc_fn _ _ _ p hf) (Evs.cons Ev.a (Evs.cons Ev.a Evs.nil))) rfl ?_;(iterate 2 refine sA ?_);refine zN ?_)
 have hr : xs.any p = decide (idxP p xs ≥ 0) := (idxP_ge _ _).symm
 exact zT Tryz.results197
theorem uR {α : Type} {xs ys : List α} {k : Nat} {x y : α} (h : xs.take k = ys.take k) (hx : xs[k]? = some x) (hy : ys[k]? = some y) (he : x = y) : xs.take (k + 1) = ys.take (k + 1) := by
 rw [List.take_add_one,List.take_add_one,h,hx,hy,he]
theorem ne_at {α : Type} {xs ys : List α} {k : Nat} {x y : α} (hx : xs[k]? = some x) (hy : ys[k]? = some y) (he : x ≠ y) : xs ≠ ys := fun e => by
 subst e;rw [hx] at hy;injection hy with hy;exact he hy
theorem qu {α : Type} {xs ys : List α} {k : Nat} (h : xs.take k = ys.take k) (hk : xs.length ≤ k) (hl : xs.length = ys.length) : xs = ys := by
 rwa [List.take_of_length_le hk,List.take_of_length_le (by omega)] at h
end Go.Proofs.YtjgmbgfcffnanaaGreatDoor
