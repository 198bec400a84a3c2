/- From a contract in the logic ('the law returns true') to the row: how arguments of any shape come in. No condition. The types of the statements' arguments, read. No condition. The types of the laws of package wire, read: each number of a plan is an int64, a string is its bytes. No condition. From what a tied row lists to what the library's contracts ask. No condition. -/
import Derived.SizedLaws
import Derived.OpenShut
import Derived.LaidMore
import Derived.Lay
import Derived.Stop.Joined
import Derived.Stop.LaidErr
import Derived.Lib.LaidTab
import Derived.Shelf.Vars
import Derived.Test.YtjgmbgfcffnanabGreatDoorZ33
namespace Go.Proofs.YtjgmbgfcffnanabGreatDoor
open Go.ChangeShapes Go.WideShapes Go.ChangeAt Go.RowKit Go.WideMaps Go.WideElems Go.Joins
def memOf (W : World) : Mem := fun b => match W.heap[b]? with
 | some (.cells cs _ _) => some cs
 | _ => none
theorem memOf_agr (W : World) : Agr (memOf W) W := fun b cs h => by
 unfold memOf at h
 split at h
 ·rename_i c t fz e;injection h with h;subst h;exact ⟨t,fz,e⟩
 ·cases h
theorem memOf_cell {W : World} {a : Addr} {v : Value} (h : W.cell? a = some v) : a.spot = none ∧ ∃ cs,memOf W a.block = some cs ∧ cs[a.off]? = some v := by
 unfold World.cell? at h
 unfold memOf
 split at h
 ·rename_i c t fz e
  rw [e]
  split at h
  ·cases h
  ·rename_i hs;exact ⟨by simpa using hs,c,rfl,h⟩
 ·cases h
section
variable {H : Type} {enc : TypeId × Value → H} {P : Program} {W : World}
def wOk (P : Program) (t : TypeId) (d : DataW H) : Prop := ∀ n ∈ d.weights P t,n ≤ reachBytes
def Rg (enc : TypeId × Value → H) (P : Program) (W : World) (t : TypeId) (k : Nat) {α : Type} (e : α → List IV) (Q : α → Prop) : Prop :=
 ∀ n cs d p,DataW.trod enc P W 0 (fun _ => true) true n t cs = some (d,p) → cs.length = k → wOk P t d → ∃ x,IVs (memOf W) (e x) cs ∧ One cs ∧ Q x
theorem rg_int {t : TypeId} (ht : P.underlying t = some (.int .i64)) : Rg enc P W t 1 (fun x : Int => [IV.int x]) I64 := fun n cs d p h _ _ => by
 obtain ⟨x,rfl,_,hw⟩ := DataW.trod_int ht h
 exact ⟨x,⟨_,_,rfl,rfl,rfl⟩,fun u hu => by simp at hu;subst hu;rfl,I64.of_wf hw⟩
theorem weightsAll_mem {e : TypeId} : ∀ {l : List (DataW H)} {d : DataW H},d ∈ l → ∀ n ∈ d.weights P e,n ∈ DataW.weightsAll P e l
 | d0 :: l,d,hd,n,hn => by
  rw [DataW.weightsAll,List.mem_append]
  rcases List.mem_cons.1 hd with rfl | hd
  ·exact .inl hn
  ·exact .inr (weightsAll_mem hd n hn)
theorem Rg.to {t : TypeId} {k : Nat} {α β : Type} {e : α → List IV} {e' : β → List IV} {Q : α → Prop} {Q' : β → Prop} (h : Rg enc P W t k e Q) (f : α → β) (he : ∀ x,e' (f x) = e x) (hq : ∀ x,Q x → Q' (f x)) : Rg enc P W t k e' Q' := fun n cs d p a b c => by
 obtain ⟨x,h1,h2,h3⟩ := h n cs d p a b c
 exact ⟨f x,by rw [he];exact h1,h2,hq x h3⟩
theorem rg_slice {t el : TypeId} {k : Nat} {α : Type} {e : α → List IV} {Q : α → Prop} {b : Nat} (ht : P.underlying t = some (.slice el)) (hk : P.cellsOf el = k) (hk0 : 0 < k) (_ : ∀ x,(e x).length = k) (hb : P.bytesOf el = b) (h : Rg enc P W el k e Q) :
 Rg enc P W t 1 (fun xs : List α => [IV.view k e xs]) (fun xs => (∀ x ∈ xs,Q x) ∧ xs.length * b ≤ reachBytes) := fun fuel cs d p hd _ hw => by
 rcases Go.Deep.open_slice ht hd with ⟨rfl,_⟩ | ⟨a,len,cap,m,n,D,Pl,rfl,_,hle,hm,hmm,hx,hi⟩
 ·exact ⟨[],⟨_,_,rfl,⟨none,0,rfl,Nat.le_refl _,by simp [maxLen],.inl rfl⟩,rfl⟩,fun u hu => by simp at hu;subst hu;rfl,by simp,by simp⟩
 ·have hlm : len ≤ m := by rw [hmm];split <;> omega
  simp only [Prod.mk.injEq] at hx
  obtain ⟨rfl,_⟩ := hx
  have hw1 : ∀ i,i < len → wOk P el (D i) := fun i hi n hn => hw n (by
   simp only [DataW.weights,ht,List.mem_cons,List.mem_append]
   exact .inr (.inl (weightsAll_mem (List.mem_map.2 ⟨i,List.mem_range.2 hi,rfl⟩) n hn)))
  have hwl : len * b ≤ reachBytes := by
   have h1 := hw ((len + (m - len)) * P.bytesOf el) (by simp [DataW.weights,ht])
   rw [hb] at h1
   exact Nat.le_trans (Nat.mul_le_mul_right _ (by omega)) h1
  have hev : ∀ i,i < len → ∃ x,Q x ∧ a.spot = none ∧ Cells (memOf W) a.block (a.off + i * k) (e x) := by
   intro i hil
   obtain ⟨cs',hc,hd'⟩ := hi i (by omega)
   rw [hk] at hc
   obtain ⟨_,hcl,hat⟩ := World.cells?_some hc
   obtain ⟨x,h1,h2,hq⟩ := h n cs' _ _ hd' hcl (hw1 i hil)
   have hcell : ∀ j v,cs'[j]? = some v → a.spot = none ∧ ∃ c,memOf W a.block = some c ∧ c[a.off + i * k + j]? = some v := fun j v hj => by
    have hjl : j < k := by rw [← hcl];exact (List.getElem?_eq_some_iff.1 hj).1
    have h3 : W.cell? (a.add (i * k + j)) = some v := by rw [← Go.Deep.add_add,hat j hjl,hj]
    obtain ⟨h4,c,h5,h6⟩ := memOf_cell h3
    have hbk : (a.add (i * k + j)).block = a.block := by unfold Addr.add;split <;> rfl
    by_cases h0 : i * k + j = 0
    ·have ha0 : a.add (i * k + j) = a := by unfold Addr.add;rw [if_pos h0]
     rw [ha0] at h4 h5 h6
     exact ⟨h4,c,h5,by rw [Nat.add_assoc,h0];exact h6⟩
    ·have hoff : (a.add (i * k + j)).off = a.off + (i * k + j) := by unfold Addr.add;rw [if_neg h0]
     rw [hbk] at h5
     rw [hoff] at h6
     refine ⟨?_,c,h5,by rw [Nat.add_assoc];exact h6⟩
     obtain ⟨cs0,hc0,hd0⟩ := hi 0 (by omega)
     rw [hk] at hc0
     obtain ⟨_,hcl0,hat0⟩ := World.cells?_some hc0
     have hv0 : cs0[0]? = some (cs0[0]'(by omega)) := List.getElem?_eq_getElem (by omega)
     have h7 : W.cell? (a.add (0 * k + 0)) = some (cs0[0]'(by omega)) := by rw [← Go.Deep.add_add,hat0 0 hk0,hv0]
     have := (memOf_cell h7).1
     simpa [Addr.add] using this
   have hsp : a.spot = none := by
    have : cs'[0]? = some (cs'[0]'(by omega)) := List.getElem?_eq_getElem (by omega)
    exact (hcell 0 _ this).1
   refine ⟨x,hq,hsp,fun j s hj => ?_⟩
   obtain ⟨v,h3,h4⟩ := h1.get hj
   obtain ⟨_,c,h5,h6⟩ := hcell j v h3
   exact ⟨c,v,h5,h6,h4,h2 v (List.mem_of_getElem? h3)⟩
  let f : Nat → Option α := fun i => if h : i < len then some (Classical.choose (hev i h)) else none
  have hf : ∀ i (h : i < len),f i = some (Classical.choose (hev i h)) := fun i h => by simp only [f,dif_pos h]
  have hmap : ∀ l : List Nat,(∀ i ∈ l,i < len) → (l.filterMap f).length = l.length ∧ ∀ i : Nat,(l.filterMap f)[i]? = (l[i]?).bind f := by
   intro l
   induction l with
   | nil => intro _;exact ⟨rfl,fun i => by simp⟩
   | cons q l ih =>
    intro hq
    have h0 := hf q (hq q (by simp))
    obtain ⟨i1,i2⟩ := ih (fun i hi => hq i (by simp [hi]))
    rw [List.filterMap_cons_some h0]
    refine ⟨by simp [i1],fun i => ?_⟩
    cases i with
    | zero => simp [h0]
    | succ i => simpa using i2 i
  obtain ⟨g1,g2⟩ := hmap (List.range len) (fun i hi => by simpa using hi)
  rw [List.length_range] at g1
  refine ⟨(List.range len).filterMap f,⟨_,_,rfl,⟨some a,cap,by rw [g1],by omega,hm,?_⟩,rfl⟩,fun u hu => by simp at hu;subst hu;rfl,fun x hx => ?_,by rw [g1];exact hwl⟩
  ·rcases Nat.eq_zero_or_pos len with h0 | hpos
   ·left;apply List.eq_nil_of_length_eq_zero;rw [g1,h0]
   ·obtain ⟨x0,_,hsp,_⟩ := hev 0 hpos
    refine .inr ⟨a.block,a.off,by obtain ⟨b,o,s⟩ := a;simp only at hsp;subst hsp;rfl,fun i x hx => ?_⟩
    rw [g2 i] at hx
    have hil : i < len := by
     rcases Nat.lt_or_ge i len with h | h
     ·exact h
     ·rw [List.getElem?_eq_none (by simpa using h)] at hx;cases hx
    rw [List.getElem?_range hil] at hx
    simp only [Option.bind_some,hf i hil,Option.some.injEq] at hx
    subst hx
    exact (Classical.choose_spec (hev i hil)).2.2
  ·obtain ⟨i,hi,hfi⟩ := List.mem_filterMap.1 hx
   have hil : i < len := by simpa using hi
   rw [hf i hil] at hfi
   injection hfi with hfi
   subst hfi
   exact (Classical.choose_spec (hev i hil)).1
theorem rg_field {t : TypeId} {fs : Array Field} (hs : P.underlying t = some (.struct fs)) {n : Nat} {cs : List Value} {d : DataW H} {p : List MemPlace} (h : DataW.trod enc P W 0 (fun _ => true) true n t cs = some (d,p)) (hw : wOk P t d)
 {j : Nat} {f : Field} (hf : fs[j]? = some f) {k : Nat} (hk : P.cellsOf f.type = k) {α : Type} {e : α → List IV} {Q : α → Prop} (hr : Rg enc P W f.type k e Q) (hle : f.offset + k ≤ cs.length) : ∃ x,IVs (memOf W) (e x) ((cs.drop f.offset).take k) ∧ One ((cs.drop f.offset).take k) ∧ Q x := by
 obtain ⟨xs,m,_,hx,_,hlen,hg⟩ := DataW.trod_struct hs h
 simp only [Prod.mk.injEq] at hx
 obtain ⟨rfl,_⟩ := hx
 have h1 := hg j f hf
 rw [hk] at h1
 have hj : j < xs.length := by rw [hlen];exact (Array.getElem?_eq_some_iff.1 hf).1
 rw [List.getElem?_eq_getElem hj] at h1
 refine hr m _ _ _ h1 (by rw [List.length_take,List.length_drop];omega) fun q hq => hw q ?_
 simp only [DataW.weights,hs]
 exact DataW.weights_mem_each (j := j) (t := f.type) (d := xs[j].1) (by simp [hf]) (by rw [List.getElem?_map,List.getElem?_eq_getElem hj];rfl) q hq
theorem rg_struct2 {t : TypeId} {f0 f1 : Field} {k0 k1 : Nat} {α β : Type} {e0 : α → List IV} {e1 : β → List IV} {Q0 : α → Prop} {Q1 : β → Prop} (hs : P.underlying t = some (.struct #[f0,f1])) (o0 : f0.offset = 0) (o1 : f1.offset = k0)
 (c0 : P.cellsOf f0.type = k0) (c1 : P.cellsOf f1.type = k1) (r0 : Rg enc P W f0.type k0 e0 Q0) (r1 : Rg enc P W f1.type k1 e1 Q1) : Rg enc P W t (k0 + k1) (fun x : α × β => e0 x.1 ++ e1 x.2) (fun x => Q0 x.1 ∧ Q1 x.2) := fun n cs d p h hl hw => by
 obtain ⟨a,a1,a2,a3⟩ := rg_field hs h hw (j := 0) (f := f0) rfl c0 r0 (by omega)
 obtain ⟨b,b1,b2,b3⟩ := rg_field hs h hw (j := 1) (f := f1) rfl c1 r1 (by omega)
 rw [o0,List.drop_zero] at a1 a2
 rw [o1,List.take_of_length_le (by rw [List.length_drop];omega)] at b1 b2
 have hcs : cs = cs.take k0 ++ cs.drop k0 := (List.take_append_drop k0 cs).symm
 refine ⟨(a,b),?_,?_,a3,b3⟩
 ·rw [hcs];exact a1.append b1
 ·rw [hcs];exact a2.append b2
theorem rg_struct3 {t : TypeId} {f0 f1 f2 : Field} {k0 k1 k2 : Nat} {α β γ : Type} {e0 : α → List IV} {e1 : β → List IV} {e2 : γ → List IV} {Q0 : α → Prop} {Q1 : β → Prop} {Q2 : γ → Prop} (hs : P.underlying t = some (.struct #[f0,f1,f2])) (o0 : f0.offset = 0) (o1 : f1.offset = k0) (o2 : f2.offset = k0 + k1)
 (c0 : P.cellsOf f0.type = k0) (c1 : P.cellsOf f1.type = k1) (c2 : P.cellsOf f2.type = k2) (r0 : Rg enc P W f0.type k0 e0 Q0) (r1 : Rg enc P W f1.type k1 e1 Q1) (r2 : Rg enc P W f2.type k2 e2 Q2) :
 Rg enc P W t (k0 + k1 + k2) (fun x : α × β × γ => e0 x.1 ++ (e1 x.2.1 ++ e2 x.2.2)) (fun x => Q0 x.1 ∧ Q1 x.2.1 ∧ Q2 x.2.2) := fun n cs d p h hl hw => by
 obtain ⟨a,a1,a2,a3⟩ := rg_field hs h hw (j := 0) (f := f0) rfl c0 r0 (by omega)
 obtain ⟨b,b1,b2,b3⟩ := rg_field hs h hw (j := 1) (f := f1) rfl c1 r1 (by omega)
 obtain ⟨c,d1,d2,d3⟩ := rg_field hs h hw (j := 2) (f := f2) rfl c2 r2 (by omega)
 rw [o0,List.drop_zero] at a1 a2
 rw [o1] at b1 b2
 rw [o2,List.take_of_length_le (by rw [List.length_drop];omega)] at d1 d2
 have hcs : cs = cs.take k0 ++ ((cs.drop k0).take k1 ++ cs.drop (k0 + k1)) := by
  rw [← List.drop_drop,List.take_append_drop,List.take_append_drop]
 refine ⟨(a,b,c),?_,?_,a3,b3,d3⟩
 ·rw [hcs];exact a1.append (b1.append d1)
 ·rw [hcs];exact a2.append (b2.append d2)
theorem rg_struct4 {t : TypeId} {f0 f1 f2 f3 : Field} {k0 k1 k2 k3 : Nat} {α β γ δ : Type} {e0 : α → List IV} {e1 : β → List IV} {e2 : γ → List IV} {e3 : δ → List IV} {Q0 : α → Prop} {Q1 : β → Prop} {Q2 : γ → Prop} {Q3 : δ → Prop} (hs : P.underlying t = some (.struct #[f0,f1,f2,f3])) (o0 : f0.offset = 0) (o1 : f1.offset = k0) (o2 : f2.offset = k0 + k1) (o3 : f3.offset = k0 + k1 + k2)
 (c0 : P.cellsOf f0.type = k0) (c1 : P.cellsOf f1.type = k1) (c2 : P.cellsOf f2.type = k2) (c3 : P.cellsOf f3.type = k3) (r0 : Rg enc P W f0.type k0 e0 Q0) (r1 : Rg enc P W f1.type k1 e1 Q1) (r2 : Rg enc P W f2.type k2 e2 Q2) (r3 : Rg enc P W f3.type k3 e3 Q3) :
 Rg enc P W t (k0 + k1 + k2 + k3) (fun x : α × β × γ × δ => e0 x.1 ++ (e1 x.2.1 ++ (e2 x.2.2.1 ++ e3 x.2.2.2))) (fun x => Q0 x.1 ∧ Q1 x.2.1 ∧ Q2 x.2.2.1 ∧ Q3 x.2.2.2) := fun n cs d p h hl hw => by
 obtain ⟨a,a1,a2,a3⟩ := rg_field hs h hw (j := 0) (f := f0) rfl c0 r0 (by omega)
 obtain ⟨b,b1,b2,b3⟩ := rg_field hs h hw (j := 1) (f := f1) rfl c1 r1 (by omega)
 obtain ⟨c,d1,d2,d3⟩ := rg_field hs h hw (j := 2) (f := f2) rfl c2 r2 (by omega)
 obtain ⟨g,g1,g2,g3⟩ := rg_field hs h hw (j := 3) (f := f3) rfl c3 r3 (by omega)
 rw [o0,List.drop_zero] at a1 a2
 rw [o1] at b1 b2
 rw [o2] at d1 d2
 rw [o3,List.take_of_length_le (by rw [List.length_drop];omega)] at g1 g2
 have hcs : cs = cs.take k0 ++ ((cs.drop k0).take k1 ++ ((cs.drop (k0 + k1)).take k2 ++ cs.drop (k0 + k1 + k2))) := by
  rw [← List.drop_drop (i := k2),List.take_append_drop,← List.drop_drop,List.take_append_drop,List.take_append_drop]
 refine ⟨(a,b,c,g),?_,?_,a3,b3,d3,g3⟩
 ·rw [hcs];exact a1.append (b1.append (d1.append g1))
 ·rw [hcs];exact a2.append (b2.append (d2.append g2))
theorem arg_one {t : TypeId} {α : Type} {e : α → List IV} {s : α → IV} {Q : α → Prop} {base : Nat} {v : Value} {d : DataW H} {p : List MemPlace} (h : Rg enc P W t 1 e Q) (he : ∀ x,e x = [s x]) (hag : match P.underlying t with | some u => aggB u = false | none => False)
 (hv : Value.okWide P W .any base t v) (hd : DataW.Trod enc P W 0 (fun _ => true) true t v d p) (hw : wOk P t d) : ∃ x,(s x).p (memOf W) v ∧ Q x := by
 obtain ⟨fuel,hd⟩ := hd
 have hone : v.cells = #[v] := by
  cases hu : P.underlying t with
  | none => rw [hu] at hag;exact hag.elim
  | some u =>
   rw [hu] at hag
   cases v with
   | agg cs => exfalso;unfold Value.okWide at hv;rw [hu] at hv;cases u <;> simp_all [aggB,Cell.okWide,Cell.ok]
   | _ => rfl
 rw [hone] at hd
 obtain ⟨x,h1,h2,h3⟩ := h fuel _ _ _ hd rfl hw
 rw [he] at h1
 obtain ⟨v',vs,e1,h4,_⟩ := h1
 simp at e1
 exact ⟨x,by rw [e1.1];exact h4,h3⟩
theorem arg_agg {t : TypeId} {fs : Array Field} {k : Nat} {α : Type} {e : α → List IV} {Q : α → Prop} {base : Nat} {v : Value} {d : DataW H} {p : List MemPlace} (hs : P.underlying t = some (.struct fs)) (hk : P.cellsOf t = k) (h : Rg enc P W t k e Q)
 (hv : Value.okWide P W .any base t v) (hd : DataW.Trod enc P W 0 (fun _ => true) true t v d p) (hw : wOk P t d) : ∃ x,(IV.agg (e x)).p (memOf W) v ∧ Q x := by
 obtain ⟨fuel,hd⟩ := hd
 obtain ⟨cs,rfl,hsz⟩ := okWide_struct hs hv
 obtain ⟨x,h1,h2,h3⟩ := h fuel _ _ _ hd (by simpa [Value.cells,hk] using hsz) hw
 exact ⟨x,⟨cs.toList,by simp,h1,h2⟩,h3⟩
theorem wOk_each {ts : List TypeId} {ds : List (DataW H)} (h : (DataW.weightsEach P ts ds).all (· ≤ reachBytes) = true) {j : Nat} {t : TypeId} {d : DataW H} (ht : ts[j]? = some t) (hd : ds[j]? = some d) : wOk P t d := fun n hn => by
 have := List.all_eq_true.1 h n (DataW.weights_mem_each ht hd n hn)
 simpa using this
end
theorem fn_calls {C : Cfg} {f : FuncId} {args : List IV} {b : Bool} (h : Fn C f args (IV.bool b)) {μ : Mem} {w : World} (ha : Agr μ w) {vs : List Value} (hv : IVs μ args vs) : Calls C.P f vs.toArray w fun e w' => e = .returned (.bool b) ∧ Below w.heap.size w w' :=
 (h.2 μ w vs hv ha).mono fun e w' ⟨v,μ',he,hp,hs⟩ => ⟨by rw [he,show v = .bool b from hp],hs.below⟩
theorem wOk_args {H : Type} {P : Program} {ts ts' : List TypeId} {ds gs : List (DataW H)} (h : (DataW.weightsEach P (ts ++ ts') (ds ++ gs)).all (· ≤ reachBytes) = true) : (DataW.weightsEach P ts ds).all (· ≤ reachBytes) = true := by
 refine List.all_eq_true.2 fun n hn => List.all_eq_true.1 h n ?_
 clear h
 induction ts generalizing ds with
 | nil => simp [DataW.weightsEach] at hn
 | cons t ts ih =>
  cases ds with
  | nil => simp [DataW.weightsEach] at hn
  | cons d ds =>
   simp only [DataW.weightsEach,List.cons_append,List.mem_append] at hn ⊢
   exact hn.imp id ih
section
variable {H : Type} {enc : TypeId × Value → H} {W : World}
def cO (o : YtjgmbgfcffnanabGreatDoor.Operand) : List IV := [IV.int o.kind,IV.int o.n]
theorem Tryz.rg_i : Rg enc Tryz.prog W 3 1 cI I64 := rg_int Tryz.underlying3
theorem Tryz.rg_is : Rg enc Tryz.prog W 42 1 (fun xs : List Int => [intsV xs]) (fun xs => (∀ x ∈ xs,I64 x) ∧ xs.length * 8 ≤ reachBytes) :=
 rg_slice (b := 8) (k := 1) Tryz.underlying42 (by kernel_rfl) (by omega) (fun _ => rfl) (by kernel_rfl) Tryz.rg_i
end
section
variable {H : Type} {enc : TypeId × Value → H} {W : World}
theorem Tryz.rg_oI : Rg enc Tryz.prog W 48 2 cO (fun o => I64 o.n) :=
 (rg_struct2 Tryz.underlying48 rfl rfl (by kernel_rfl) (by kernel_rfl) Tryz.rg_i Tryz.rg_i).to (fun x => ⟨x.1,x.2⟩) (fun _ => rfl) (fun _ h => h.2)
theorem Tryz.rg_gI : Rg enc Tryz.prog W 50 5 cG GuardI :=
 (rg_struct3 Tryz.underlying50 rfl rfl rfl (by kernel_rfl) (by kernel_rfl) (by kernel_rfl) Tryz.rg_i Tryz.rg_oI Tryz.rg_oI).to (fun x => ⟨x.1,x.2.1,x.2.2⟩) (fun _ => rfl) (fun _ h => h.2)
theorem Tryz.rg_sI : Rg enc Tryz.prog W 53 6 cS SetI :=
 (rg_struct4 Tryz.underlying53 rfl rfl rfl rfl (by kernel_rfl) (by kernel_rfl) (by kernel_rfl) (by kernel_rfl) Tryz.rg_i Tryz.rg_i Tryz.rg_oI Tryz.rg_oI).to (fun x => ⟨x.1,x.2.1,x.2.2.1,x.2.2.2⟩) (fun _ => rfl) (fun _ h => h.2.2)
theorem Tryz.rg_tI : Rg enc Tryz.prog W 46 3 cT (fun t => TxnB t ∧ TxnI t) :=
 (rg_struct3 Tryz.underlying46 rfl rfl rfl (by kernel_rfl) (by kernel_rfl) (by kernel_rfl) Tryz.rg_is
  (rg_slice (b := 40) (k := 5) Tryz.underlying43 (by kernel_rfl) (by omega) (fun _ => rfl) (by kernel_rfl) Tryz.rg_gI)
  (rg_slice (b := 48) (k := 6) Tryz.underlying44 (by kernel_rfl) (by omega) (fun _ => rfl) (by kernel_rfl) Tryz.rg_sI)).to (fun x => ⟨x.1,x.2.1,x.2.2⟩) (fun _ => rfl) (fun x h => ⟨Nat.le_trans h.2.2.2 (by decide),h.2.1.1,h.2.2.1⟩)
theorem Tryz.rg_tsI : Rg enc Tryz.prog W 22 1 (fun l : List Txn => [txsV l]) (fun l => (∀ t ∈ l,TxnB t ∧ TxnI t) ∧ l.length * 72 ≤ reachBytes) :=
 rg_slice (b := 72) (k := 3) Tryz.underlying22 (by kernel_rfl) (by omega) (fun _ => rfl) (by kernel_rfl) Tryz.rg_tI
theorem Tryz.rg_planI : Rg enc Tryz.prog W 24 2 cP (fun p => TxsB p.txns ∧ PlanI p) :=
 (rg_struct2 Tryz.underlying24 rfl rfl (by kernel_rfl) (by kernel_rfl) Tryz.rg_i Tryz.rg_tsI).to (fun x => ⟨x.1,x.2⟩) (fun _ => rfl) (fun x h => ⟨fun t ht => (h.2.1 t ht).1,fun t ht => (h.2.1 t ht).2⟩)
end
end Go.Proofs.YtjgmbgfcffnanabGreatDoor
namespace Go.Proofs.YtjgmbgfcffnanabGreatDoor
open Go.ChangeShapes Go.WideShapes Go.ChangeAt Go.RowKit
theorem handed_laid {H : Type} {enc : TypeId × Value → H} {a : Assume} {C : Checked} {os : Os} {f : FuncId} {fn : Func} {s : ChangeSpec} {conds : List PathCond} {apart fresh handsOn again : Bool} {X : World → Array Value → Prop}
 (hX : ∀ (w w' : World) (args : Array Value),w.heap = w'.heap → X w args → X w' args)
 (own : ownKnob C.prog.godebug = none) (started : os.Started) (noInit : C.prog.inits.idxOf? f = none) (hfn : C.prog.funcs[f]? = some fn)
 (witness : ∃ (w : World) (tape : Tape) (i : Input),w.os = os ∧ (w.forCall tape i).Shaped C.prog ∧ i.vars = [] ∧ Input.okWide C.prog (w.forCall tape i) .any w.heap.size f i ∧
  ((s.pre enc C.prog fn conds apart (w.forCall tape i).memory i.args ∧ X (w.forCall tape i).memory i.args) ∧ sizedMet enc C.prog fn (OpenSpec.ofChange s) apart (w.forCall tape i).memory i.args) ∧ a.holds C.prog (lone (Frame.enter C.prog f i.args .normal) [] (w.forCall tape i)))
 (contract : ∀ (W : World) (base : Nat) (args : Array Value) (ds gs : List (DataW H)) (before : List MemPlace),
  (∀ (j : Nat) t v,fn.params[j]? = some t → args[j]? = some v → Value.okWide C.prog W .any base t v) →
  DataW.Whole enc C.prog fn.params.toList s.vars apart W args.toList ds gs before →
  (DataW.weightsEach C.prog (fn.params.toList ++ s.plain.varTypes C.prog) (ds ++ gs)).all (· ≤ reachBytes) = true → X W args → W.ShapedOpen C.prog →
  Calls C.prog f args W fun e W' => ∃ v,e = .returned v ∧ s.post enc C.prog fn apart fresh handsOn again W args v W') :
 ReturnsInHanded a C os f .any (fun w args => (s.pre enc C.prog fn conds apart w args ∧ X w args) ∧ sizedMet enc C.prog fn (OpenSpec.ofChange s) apart w args) (s.post enc C.prog fn apart fresh handsOn again) := by
 refine returnsInHanded_of_calls own started noInit witness ?_
 intro w tape i _ hsh _ hok hpre hholds
 obtain ⟨_,_,_,fn',hfn',_,_,_,_,hval⟩ := hok
 have e : fn' = fn := Option.some.inj (hfn'.symm.trans hfn)
 subst e
 obtain ⟨⟨⟨ds,gs,before,hw,_⟩,hx⟩,hz⟩ := hpre
 have hw' := DataW.Whole.of_heap (w' := w.forCall tape i) (by rfl) hw
 refine (contract (w.forCall tape i) w.heap.size i.args ds gs before hval hw' (hz.weights hw) (hX _ _ _ (by rfl) hx) hsh).mono fun e W' ⟨v,he,hp⟩ => ?_
 subst he
 exact ChangeSpec.post_blind hp
theorem memOf_var {W : World} {n : String} {cs : Array Value} (h : W.var? Tryz.prog n = some cs) : GV (memOf W) n cs := by
 unfold World.var? at h
 cases hg : Tryz.prog.globalNamed n with
 | none => rw [hg] at h;cases h
 | some g =>
  refine ⟨g,hg,?_⟩
  rw [hg,Option.bind_some] at h
  exact h
theorem mx_of_shape {W : World} (h : W.ShapedOpen Tryz.prog) : ∃ m : Int,GV (memOf W) "internal/bytealg.MaxLen" #[.int .i64 m] := by
 have hg : Tryz.prog.globalNamed "internal/bytealg.MaxLen" = some 0 := by kernel_rfl
 have h0 : ((begin Tryz.prog (fun _ _ => 0) default).world.heap[0]?).bind Obj.row? = some (#[.int .i64 0],3) := by kernel_rfl
 have h1 : 0 < Tryz.prog.globals.size := of_decide_eq_true (by kernel_rfl)
 obtain ⟨m,hm⟩ := cell_of_shapedOpen_int h h1 h0 rfl (by kernel_rfl) (by kernel_rfl) Tryz.underlying3
 obtain ⟨cs,hh,hs,_⟩ := h.1 0 _ _ h1 h0
 refine ⟨m,0,hg,?_⟩
 have hc : cs[0]? = some (.int .i64 m) := by
  simp only [World.cell?,hh] at hm
  exact hm
 have hs1 : cs.size = 1 := hs
 have : cs = #[.int .i64 m] := by
  apply Array.ext'
  have hl : cs.toList.length = 1 := by simpa using hs1
  match e : cs.toList,hl with
  | [x],_ =>
   have : cs.toList[0]? = some (.int .i64 m) := by simpa using hc
   rw [e] at this
   simpa using this
 unfold memOf
 rw [hh,this]
end Go.Proofs.YtjgmbgfcffnanabGreatDoor
