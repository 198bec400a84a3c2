/- Package desk: line, whole. strings.Lines: its iterator, which keeps the rest in a box of its own. No condition. strings.Builder, walked at this program: what it writes, and what it leaves as it was. No condition. strings.Builder in the logic. No condition. -/
import Derived.RegionIn
import Derived.Shelf.RegionOpenPlain
import Derived.Lib.Builder
import Derived.Lib.AppendStr
import Derived.Lib.UnsafeStr
import Derived.Laws.Externs
import Derived.Test.YtjgmbgfcffnanaaGreatDoorZ39
import Derived.Test.YtjgmbgfcffnanaaGreatDoorZ40
set_option maxRecDepth 100000
set_option maxHeartbeats 4000000
namespace Go.Proofs.YtjgmbgfcffnanaaGreatDoor
open Go.RowKit
theorem three_of {l : List UInt8} (h : (splitS l).length = 3) : ∃ w a b,splitS l = [w,a,b] := by
 generalize splitS l = ws at h
 match ws,h with
 | [w,a,b],_ => exact ⟨w,a,b,rfl⟩
theorem line_e {M : Mem} (hM : GlobM M) (p : Plan) (d : Dk) (l : List UInt8) (g : Good p d) (hB : TxsB p.txns) (hpI : PlanI p) (hl : l.length ≤ 4096) :
 FnE CC 13 1 [.off 0 0,.im (IV.wth M (IV.str l))] (tabH 40 p d) (.im (IV.str (lineS p d l).1)) (tabH 40 p (lineS p d l).2) 1 [0] := by
 refine line_fn p d l ?_
 by_cases n3 : l = [99,97,110]
 ·subst n3;exact line_can p d g hB
 by_cases n5 : l = [115,116,111,114,101]
 ·subst n5;exact line_store hM p d g
 by_cases n13 : l = [114,101,115,116]
 ·subst n13;exact line_rest p d g hB hpI
 by_cases n16 : l = [97,117,100,105,116]
 ·subst n16;exact line_audit hM p d g hB
 refine line_pre p d l n3 n5 n13 n16 ?_
 by_cases h3 : (splitS l).length = 3
 rotate_left
 ·exact line_few hM p d l hl n3 n5 n13 n16 h3
 obtain ⟨w,a,b,hs⟩ := three_of h3
 by_cases hi : idxW w = -1
 ·exact line_word hM p d l hl hs hi
 cases hx : numS a with
 | none => exact line_a hM p d l hl hs hi hx
 | some x =>
  cases hy : numS b with
  | none => exact line_b hM p d l hl hs hi hx hy
  | some y =>
   by_cases h0 : x < 0
   ·exact line_neg hM p d l hl hs hx hy hi h0
   by_cases hi0 : idxW w = 0
   ·by_cases h8 : x < 8
    ·exact line_put hM p d l g hB hl hs hx hy hi0 h0 h8
    ·exact line_big hM p d l hl hs hx hy hi0 h0 h8
   by_cases h1 : y < 0
   ·exact line_bad hM p d l hl hs hx hy hi hi0 h0 h1
   by_cases h2 : doE p d.s ⟨idxW w,x,y⟩ = 0
   ·exact line_do hM p d l hB hl hs hx hy hi hi0 h0 h1 h2
   ·exact line_not hM p d l g hB hl hs hx hy hi hi0 h0 h1 h2
end Go.Proofs.YtjgmbgfcffnanaaGreatDoor
namespace Go.Proofs.YtjgmbgfcffnanaaGreatDoor
open Go.RowKit Go.Shelf
def boxLen (g : Nat) (w : World) : Nat := match w.cell? ⟨g,0,none⟩ with
 | some (.string s) => s.size
 | _ => 0
theorem boxLen_at {g : Nat} {w : World} {r : List UInt8} (h : w.cell? ⟨g,0,none⟩ = some (.string (bS r))) : boxLen g w = r.length := by
 unfold boxLen;rw [h];exact yL r
theorem NL.rest {u r : List UInt8} (h : NL (u ++ 10 :: r)) : NL r := by
 rcases h with h | h
 ·simp at h
 ·cases r with
  | nil => exact .inl rfl
  | cons b r =>
   right
   rw [List.getLast?_append] at h
   simpa using h
theorem lines_in (g l : Nat) (J : List (List UInt8) → List UInt8 → World → Prop) (K : List (List UInt8) → List UInt8 → List UInt8 → World → Prop)
 (hread : ∀ pre r W,J pre r W → W.cell? ⟨g,0,none⟩ = some (.string (bS r)) ∧ W.frozen? ⟨g,0,none⟩ = false)
 (hbel : ∀ pre r W W',J pre r W → Below W.heap.size W W' → J pre r W')
 (hset : ∀ pre u r W,10 ∉ u → J pre (u ++ 10 :: r) W → K pre u r (W.setCell ⟨g,0,none⟩ (.string (bS r))))
 (hY : ∀ pre u r W,K pre u r W → YieldAt Fence.wide 7 Tryz.prog l #[.string (bS (u ++ [10]))] W fun e W' => e = .returned (.bool true) ∧ J (pre ++ [u]) r W')
 (t : List UInt8) (W : World) (h0 : J [] t W) (hNL : NL t) (hlen : t.length ≤ 4611686018427387904) :
 CallsIn Fence.wide 8 Tryz.prog 39 #[.func (.yield l) #[] #[],.pointer (some ⟨g,0,none⟩)] W fun e W' => (∃ v,e = .returned v) ∧ J (linesS t) [] W' := by
 refine callsIn_of_wp Tryz.func39 rfl trivial ?_ rfl
 simp only [Tryz.ntmps39,List.size_toArray,List.length_cons,List.length_nil,Nat.reduceAdd,Nat.reduceSub,Array.replicate_succ,Array.replicate_zero,List.push_toArray,List.append_toArray,List.nil_append,List.cons_append]
 gi_wp2
 gi_loopw [] (fun wr => ∃ pre r,linesS t = pre ++ linesS r ∧ NL r ∧ r.length ≤ t.length ∧ J pre r wr) (fun wr => boxLen g wr)
 case atStart => exact ⟨[],t,rfl,hNL,Nat.le_refl _,h0⟩
 case round =>
  obtain ⟨pre,r,hl,hn,hle,hJ⟩ := hrel
  obtain ⟨hc,hf⟩ := hread _ _ _ hJ
  by_cases hr : r = []
  ·subst hr
   have e0 : bS [] = ⟨#[]⟩ := rfl
   rw [e0] at hc
   have hl2 : linesS t = pre := by rw [hl];exact List.append_nil _
   gi_wp2
   go_end0
   exact ⟨⟨_,rfl⟩,by rw [hl2];exact hJ⟩
  ·rcases indexNL r with ⟨_,h2⟩ | ⟨u,r2,rfl,hu,h3⟩
   ·exfalso
    rcases hn with h | h
    ·exact hr h
    ·exact h2 (List.mem_of_getLast? h)
   ·have hsz : (bS (u ++ 10 :: r2)).size = u.length + 1 + r2.length := by rw [yL];simp;omega
    have hb0 : boxLen g wr = u.length + 1 + r2.length := by rw [boxLen_at hc];simp;omega
    obtain ⟨s,hs0⟩ : ∃ s,s = bS (u ++ 10 :: r2) := ⟨_,rfl⟩
    rw [← hs0] at hc hsz
    have hs := Lib.hid hs0
    clear hs0 hr
    have hpos : 0 < s.size := by omega
    obtain ⟨n,hn0⟩ : ∃ n,n = u.length := ⟨_,rfl⟩
    have h3' : Lib.indexByte s.data.toList 10 = (n : Int) := by rw [hs.out,hn0];exact h3
    have hns : n + 1 + r2.length = s.size := by omega
    have hn1 := Lib.hid hn0
    clear hn0 h3 hsz
    gi_wp2
    refine ⟨trivial,callsIn_wide.2 ((Tryz.strings_IndexByte s 10 wr).mono ?_)⟩
    rintro e w' ⟨rfl,rfl⟩
    have e10 : ((10 : Int).toNat.toUInt8) = (10 : UInt8) := rfl
    rw [e10,h3']
    gi_wp2
    have mixed := mixd
    have hn62 : n + 1 + r2.length ≤ 4611686018427387904 := by
     have := hn1.out
     simp only [List.length_append,List.length_cons] at hle
     omega
    have hw : wrap64 ((n : Int) + 1) = ((n + 1 : Nat) : Int) := by unfold wrap64;omega
    have hA : n + 1 ≤ s.size := by omega
    gi_region
    have hx1 : s.extract 0 (n + 1) = bS (u ++ [10]) := by
     rw [hs.out,hn1.out,j4 _ _ _ (Nat.zero_le _) (by simp),List.drop_zero,show u ++ 10 :: r2 = (u ++ [10]) ++ r2 by simp,show u.length + 1 = (u ++ [10]).length by simp,List.take_left]
    have hx2 : s.extract (n + 1) s.size = bS r2 := by
     rw [← hns,hs.out,hn1.out,j4 _ _ _ (by omega) (by simp;omega)]
     congr 1
     rw [List.take_of_length_le (by simp;omega)]
     simp
    rw [hx1,hx2]
    have hJd := hbel _ _ _ _ hJ (Below.drew (Below.refl w'.heap.size w'))
    have hK := hset _ _ _ _ hu hJd
    have hlr : linesS t = (pre ++ [u]) ++ linesS r2 := by rw [hl,linesS_at r2 hu];simp
    have hnr : NL r2 := NL.rest hn
    have hler : r2.length ≤ t.length := by simp only [List.length_append,List.length_cons] at hle;omega
    obtain ⟨fn,tmps,assign,body,hy,hR⟩ := hY _ _ _ _ hK
    clear hJd hK hJ
    have ew : w'.drew.setCell ⟨g,0,none⟩ (.string (bS r2)) = (w'.setCell ⟨g,0,none⟩ (.string (bS r2))).drew := rfl
    rw [ew] at hy hR
    gi_wp2
    refine hR.mono ?_
    rintro e W3 ⟨rfl,hJ4⟩
    gi_wp2
    go_roundw
    case rel =>
     exact ⟨_,_,hlr,hnr,hler,hJ4⟩
    case measure =>
     rw [boxLen_at (hread _ _ _ hJ4).1,hb0]
     omega
theorem sbSize : (Tryz.prog.info? 46).map (·.size) = some 2 := by kernel_rfl
theorem sbLies : liesAt Tryz.prog Tryz.prog.depth 46 (2 / Tryz.prog.cellsOf 46) 0 46 1 = true := by kernel_rfl
theorem cc_used (b : Nat) (w : World) (h0 : w.cell? ⟨b,0,none⟩ = some (.pointer (some ⟨b,0,none⟩))) :
 Calls Tryz.prog 41 #[.pointer (some ⟨b,0,none⟩)] w fun e w' => e = .returned (.tuple #[]) ∧ w' = w := by
 obtain ⟨j,hj,_⟩ := Option.map_eq_some_iff.1 sbSize
 go_enter Tryz.func41,Tryz.ntmps41
 go_wp2
 rw [Lib.run_neq_ptr_same w _ Tryz.underlying43 hj]
 go_wp2
 go_end0
 exact ⟨rfl,rfl⟩
theorem cc_fresh (b : Nat) (w : World) (h0 : w.cell? ⟨b,0,none⟩ = some (.pointer none)) (hsh : w.shape? b = some (46,2)) (hfz : w.frozen? ⟨b,0,none⟩ = false) :
 Calls Tryz.prog 41 #[.pointer (some ⟨b,0,none⟩)] w fun e w' => e = .returned (.tuple #[]) ∧ w' = w.setCell ⟨b,0,none⟩ (.pointer (some ⟨b,0,none⟩)) := by
 obtain ⟨j,hj,hjs⟩ := Option.map_eq_some_iff.1 sbSize
 go_enter Tryz.func41,Tryz.ntmps41
 go_wp2
 rw [Lib.run_to_unsafe w ⟨b,0,none⟩ Tryz.underlying43 Tryz.underlying154 hj (by rw [hjs];decide) hsh (Nat.zero_lt_succ 1)]
 simp only [Result.andThen]
 rw [Oper.upon_value]
 go_wp2
 rw [run_callFunc_extern Tryz.func82 (by kernel_rfl) (by kernel_rfl) (by kernel_rfl) (e := Extern.AbiNoEscape.same) (by kernel_rfl)]
 rw [Lib.run_noEscape]
 simp only [Result.andThen]
 rw [Oper.upon_value]
 go_wp2
 rw [Lib.run_from_unsafe w ⟨b,0,none⟩ Tryz.underlying154 Tryz.underlying43 hj hsh sbLies]
 simp only [Result.andThen]
 rw [Oper.upon_value]
 go_wp2
 go_end0
 exact ⟨rfl,rfl⟩
theorem turned_freeze (w : World) (g n : Nat) : Turned w (w.drew.freeze ⟨g,0,none⟩ n) (some g) := by
 unfold World.freeze
 split
 ·exact ⟨rfl,rfl,rfl,Nat.le_refl _,fun _ _ _ => rfl⟩
 ·refine ⟨rfl,rfl,rfl,by simp,fun k _ hk => ?_⟩
  simp only [Array.getElem?_modify]
  rw [if_neg (fun e => hk (by rw [e]))]
  rfl
theorem sb_string (b g cap : Nat) (cur : Array Value) (p : Value) (l : List UInt8) (w : World) (hbk : w.heap[b]? = some (.cells #[p,.slice (some ⟨g,0,none⟩) l.length cap] 46 (0,0))) (hown : w.ownsRow 0 5 1 (.slice (some ⟨g,0,none⟩) l.length cap) l.length (Lib.byteCells l)) (h0 : l ≠ [])
 (hg : w.heap[g]? = some (.cells cur 5 (0,0))) (hnc : l.length ≤ cap) (hcm : cap ≤ maxLen) (hcs : cur.size = cap * 1) :
 Calls Tryz.prog 15 #[.pointer (some ⟨b,0,none⟩)] w fun e w' => e = .returned (.string ⟨l.toArray⟩) ∧ Turned w w' (some g) := by
 have hl0 : l.length ≠ 0 := by simpa using h0
 have c1 : w.drew.cell? ⟨b,1,none⟩ = some (.slice (some ⟨g,0,none⟩) l.length cap) := by
  have : w.drew.heap[b]? = some (.cells #[p,.slice (some ⟨g,0,none⟩) l.length cap] 46 (0,0)) := hbk
  rw [Lib.cell_of_heap this];rfl
 have hSD : (Builtin.unsafeSliceData_ #[44] 122 #[.slice (some ⟨g,0,none⟩) l.length cap]).run Tryz.prog w.drew = .ok (.pointer (some ⟨g,0,none⟩)) w.drew :=
  Lib.run_unsafeSliceData_row _ _ _ _ _ _ (by omega)
 have hUS : (Builtin.unsafeString_ #[122,3] 9 #[.pointer (some ⟨g,0,none⟩),.int .i64 l.length]).run Tryz.prog w.drew = .ok (.string ⟨l.toArray⟩) (w.drew.freeze ⟨g,0,none⟩ l.length) := by
  refine Lib.run_unsafeString_row w.drew 122 3 9 5 Tryz.underlying122 (by kernel_rfl) g cur.size (by have hg' : w.drew.heap[g]? = some (.cells cur 5 (0,0)) := hg;simp [World.shape?,hg']) l h0 (by omega) (by unfold maxLen at hcm;omega) ?_
  intro j x hx
  have := hown.cells (g := g) rfl j (.int .u8 x.toNat) (by simp [Lib.byteCells,hx])
  exact this
 have mixed := mixd
 go_enter Tryz.func15,Tryz.ntmps15
 go_wp2
 go_region_o
 all_goals (go_wp2;go_ret;exact ⟨rfl,turned_freeze _ _ _⟩)
theorem sb_string_nil (b : Nat) (p : Value) (w : World) (hbk : w.heap[b]? = some (.cells #[p,.slice none 0 0] 46 (0,0))) :
 Calls Tryz.prog 15 #[.pointer (some ⟨b,0,none⟩)] w fun e w' => e = .returned (.string ⟨#[]⟩) ∧ Turned w w' none := by
 have hUS := fun (W : World) (q : Option Addr) => Lib.run_unsafeString_none (P := Tryz.prog) W 122 3 9 q
 have c1 : w.drew.cell? ⟨b,1,none⟩ = some (.slice none 0 0) := by
  have : w.drew.heap[b]? = some (.cells #[p,.slice none 0 0] 46 (0,0)) := hbk
  rw [Lib.cell_of_heap this];rfl
 have hSD : (Builtin.unsafeSliceData_ #[44] 122 #[.slice none 0 0]).run Tryz.prog w.drew = .ok (.pointer none) w.drew := rfl
 have mixed := mixd
 go_enter Tryz.func15,Tryz.ntmps15
 go_wp2
 go_region_o
 all_goals (go_wp2;go_ret;exact ⟨rfl,rfl,rfl,rfl,Nat.le_refl _,fun _ _ _ => rfl⟩)
end Go.Proofs.YtjgmbgfcffnanaaGreatDoor
namespace Go.Proofs.YtjgmbgfcffnanaaGreatDoor
open Go.RowKit
theorem run_appStr {P : Program} (w : World) (t u ty e : TypeId) (i : TypeInfo) (ht : P.underlying t = some (.slice e)) (hu : P.underlying u = some .string) (hi : P.info? e = some i) (hz : i.zero = some (.int .u8 0)) (hsize : i.size = 1) (hby : i.bytes = 1)
 (v : Value) (n : Nat) (xs : List Value) (hown : w.ownsRow 0 e 1 v n xs) (s : ByteArray) (hbytes : n + s.size ≤ 140737488355328) :
 ∃ v' w',(Builtin.append_ #[t,u] ty #[v,.string s]).run P w = .ok v' w' ∧ w'.ownsRow 0 e 1 v' (n + s.size) (xs ++ Lib.strCells s) ∧ w.grownBy w' v.ownBlock ∧ (v'.ownBlock = v.ownBlock ∨ ∀ g,v'.ownBlock = some g → w.heap.size ≤ g) := by
 have h63 : n + s.size ≤ maxLen := by simp only [maxLen];omega
 obtain ⟨v',w',hr,h2,h3,h4⟩ := Lib.run_append_own_string (P := P) w 0 t u ty e i ht hu hi hz hsize hby v n xs hown s h63 hbytes (Nat.zero_le _)
 refine ⟨v',w',hr,h2,h3,?_⟩
 have hxl : xs.length = n := by simpa using hown.1
 rcases hown.2 with ⟨rfl,rfl⟩ | ⟨g,cap,cur,rfl,_,hg,hnc,hcm,hcs,htake⟩
 ·obtain ⟨v2,w2,hr2,k2,_,_⟩ := Lib.run_append_own_string (P := P) w w.heap.size t u ty e i ht hu hi hz hsize hby (.slice none 0 0) 0 xs ⟨hown.1,.inl ⟨rfl,rfl⟩⟩ s h63 hbytes (Nat.le_refl _)
  rw [hr] at hr2
  injection hr2 with e1 e2
  subst e1 e2
  exact .inr fun g hg => (World.ownsRow.lt k2 g hg).1
 ·by_cases hroom : n + s.size ≤ cap
  ·have := Lib.run_append_room_string (P := P) w t u ty e i ht hu hi hsize g n cap cur hg s hroom (by omega)
   rw [this] at hr
   injection hr with hr
   subst hr
   exact .inl rfl
  ·have holds : ∀ j u,xs[j]? = some u → w.cell? ((⟨g,0,none⟩ : Addr).add j) = some u := hown.cells (g := g) rfl
   have := Lib.run_append_grow_string (P := P) w t u ty e i (.int .u8 0) ht hu hi hz ⟨g,0,none⟩ n cap xs (by rw [hsize];simpa using hxl) holds s (by omega) (by omega) (by rw [hby];exact growslice_fits (by omega) (by omega))
   rw [this] at hr
   injection hr with hr
   subst hr
   refine .inr fun g hg => ?_
   simp only [Value.ownBlock,Option.some.injEq] at hg
   omega
theorem cells_cU8 (l : List UInt8) (μ : Mem) : IVs μ (l.flatMap cU8) (Lib.strCells (bS l)) := by
 unfold Lib.strCells bS
 induction l with
 | nil => rfl
 | cons b l ih =>
  simp only at ih
  exact ⟨_,_,rfl,rfl,ih⟩
section
variable {C : Cfg} {σ : Env} {H : List Ent} {fr : Nat} {d : Option Tmp} {ty : TypeId} {pos : String} {after : Array Edge} {gu : Option (Nat × Bool)}
theorem vl {t u et : TypeId} {x y : Go.Operand} {de : TyInf} {r n : Nat} {xs s : List UInt8} (hT : slT C t = some (et,de)) (hu : undS C u = true) (hz : de.zero = .int .u8 0) (hk : de.size = 1) (hby : de.bytes = 1)
 (hx : Ev σ x (.row r n)) (hy : Ev σ y (.im (IV.str s))) (hh : hget H r = some (.row et 1 cU8 xs)) (hb : xs.length + s.length ≤ 140737488355328) :
 OpE C ⟨d,.call { callee := .builtin .append,args := #[x,y],argTypes := #[t,u] },ty,pos,after,gu⟩ σ H fr (.row fr (xs.length + s.length)) ((fr,.row et 1 cU8 (xs ++ s)) :: hdel H r) (fr + 1) := fun ρ μ a w hl ha hH hfree => by
 have h0 := hx.at hl (by simp [Op.operands,Call.operands])
 unfold SV.R at h0
 obtain ⟨h1,A0,c0,h2,_⟩ := h0
 have hmem := om hh
 obtain ⟨v,us,h3,h4,h5,h6,h7,h8⟩ := hH.1 _ hmem
 rw [h3] at h1
 injection h1 with h1
 have hebr : (ρ r).bind blk = v.ownBlock := by simp only [h3,Option.bind_some];exact oh h4
 obtain ⟨hut,hTe⟩ := jd hT
 have hy2 : a.eval y = .string (bS s) := hy.val hl (by simp [Op.operands,Call.operands])
 obtain ⟨_,i,hi,hz1,hs1,hb1⟩ := hTe
 have hsz : (bS s).size = s.length := yL s
 obtain ⟨v',w',hr,h15,h16,h17⟩ := run_appStr (P := C.P) w t u ty et i hut (qt hu) hi (by rw [hz1,hz]) (by rw [hs1,hk]) (by rw [hb1,hby]) v xs.length us h4 (bS s) (by rw [hsz];exact hb)
 rw [hsz] at h15
 have hfr : ρ fr = none := hfree fr (Nat.le_refl _) (Nat.lt_succ_self _)
 have hrun : (execOp a.eval ⟨d,.call { callee := .builtin .append,args := #[x,y],argTypes := #[t,u] },ty,pos,after,gu⟩).run C.P w = .ok (.value v') w' := by
  simp only [execOp,resolve,invoke,builtin,Sem.run_bind,Sem.run_pure,Result.andThen_ok,List.map_toArray,List.map_cons,List.map_nil,← h1,hy2,hr]
 obtain ⟨k1,k2⟩ := heap_new (fr := fr) hH ha (o := .row et 1 cU8 xs) (ob := .row et 1 cU8 (xs ++ s)) hmem rfl (v' := v') (w' := w') hfr (gt := (ρ r).bind blk) ⟨h16.os,h16.tape,h16.output,h16.size,fun k hk hne => h16.block k hk (by rw [hebr] at hne;exact hne)⟩ (fun k hk => yh hk)
  (by
   rw [oh h15]
   rcases h17 with h17 | h17
   ·exact .inl fun k hk => yh (by rw [show (ρ r).bind blk = _ from hebr,← h17];exact hk)
   ·exact .inr h17)
  ⟨v',us ++ Lib.strCells (bS s),oY _ _ _,by rw [List.length_append];exact h15,by unfold IvFlat;rw [List.flatMap_append];exact h5.append (cells_cU8 s μ),h6,fun g hg => by
   rcases h17 with h17 | h17
   ·rw [h17] at hg;exact h7 g hg
   ·cases e : μ g with
    | none => rfl
    | some q => exact absurd (ha.lt (b := g) (by rw [e];simp)) (Nat.not_lt.2 (h17 g hg)),h8.append (Lib.strCells_oneCell (bS s))⟩
 unfold Oper.wp
 rw [hrun]
 refine ⟨v',μ,_,rfl,?_,k1,vv hfr,fun i hi => ?_,k2⟩
 ·unfold SV.R
  refine ⟨oY _ _ _,?_⟩
  rcases h15.2 with ⟨rfl,hn⟩ | ⟨g,cap,cur,rfl,_⟩
  ·exact ⟨none,0,by rw [hn],.inl hn⟩
  ·exact ⟨_,cap,rfl,.inr ⟨g,rfl⟩⟩
 ·unfold upd at hi
  by_cases e : i = fr
  ·exact .inr ⟨by omega,by omega⟩
  ·rw [if_neg e] at hi;exact .inl hi
end
abbrev sbF : List Ent := [(0,.blk 46 [.im (IV.val (.pointer none)),.im (IV.val (.slice none 0 0))])]
abbrev sbG : List Ent := [(0,.blk 46 [.off 0 0,.im (IV.val (.slice none 0 0))])]
abbrev sbH (bs : List UInt8) : List Ent := [(0,.blk 46 [.off 0 0,.row 1 bs.length]),(1,.row 5 1 cU8 bs)]
abbrev sbH2 (bs : List UInt8) : List Ent := [(0,.blk 46 [.off 0 0,.row 2 bs.length]),(2,.row 5 1 cU8 bs)]
theorem jL (w : World) (g o : Nat) (v : Value) : Turned w (w.setCell ⟨g,o,none⟩ v) (some g) := ⟨rfl,rfl,rfl,by simp [World.setCell],fun k _ hk => Below.heap_setCell _ _ _ _ (fun e => hk (by rw [e]))⟩
theorem cc_fn : ∃ fn,Tryz.prog.funcs[41]? = some fn ∧ fn.body.isNone = false ∧ (fn.name == "runtime.NumGoroutine") = false := ⟨_,Tryz.func41,by kernel_rfl,by kernel_rfl⟩
theorem st_fn : ∃ fn,Tryz.prog.funcs[15]? = some fn ∧ fn.body.isNone = false ∧ (fn.name == "runtime.NumGoroutine") = false := ⟨_,Tryz.func15,by kernel_rfl,by kernel_rfl⟩
theorem cc_fresh_e : FnE CC 41 1 [.off 0 0] sbF (.im (IV.tup [])) sbG 1 [0] := by
 refine ⟨cc_fn,rfl,rfl,rfl,rfl,rfl,rfl,fun ρ μ w vs hvs ha hH hnm => ?_⟩
 unfold SV.Rs at hvs
 obtain ⟨v0,vs',rfl,h0,hvs⟩ := hvs
 unfold SV.Rs at hvs
 subst hvs
 unfold SV.R at h0
 obtain ⟨g,h1,rfl⟩ := h0
 have hm : ((0 : Nat),HObj.blk 46 [.im (IV.val (.pointer none)),.im (IV.val (.slice none 0 0))]) ∈ sbF := List.mem_cons_self
 obtain ⟨g',us,h3,h4,h5,h6,h7⟩ := hH.1 _ hm
 have hebg : eb ρ (0,HObj.blk 46 [.im (IV.val (.pointer none)),.im (IV.val (.slice none 0 0))]) g' := yh (by simp [h3,blk])
 rw [h3] at h1
 simp only [Option.bind_some,blk,Option.some.injEq] at h1
 subst h1
 obtain ⟨u0,u1,hus,k0,k1⟩ : ∃ u0 u1,us = #[u0,u1] ∧ u0 = .pointer none ∧ u1 = .slice none 0 0 := by
  unfold SV.Rs at h5
  obtain ⟨u0,r,e1,k0,h5⟩ := h5
  unfold SV.Rs at h5
  obtain ⟨u1,r2,e2,k1,h5⟩ := h5
  unfold SV.Rs at h5
  subst h5 e2
  exact ⟨u0,u1,Array.ext' e1,oi.1 k0,oi.1 k1⟩
 subst k0 k1 hus
 refine (cc_fresh g' w (by rw [Lib.cell_of_heap h4];rfl) (by simp [World.shape?,h4]) (Lib.frozen_of_heap h4 0)).mono ?_
 rintro e w' ⟨rfl,rfl⟩
 have hnew : EntOk ρ μ (w.setCell ⟨g',0,none⟩ (.pointer (some ⟨g',0,none⟩))) (0,HObj.blk 46 [.off 0 0,.im (IV.val (.slice none 0 0))]) := by
  refine ⟨g',#[.pointer (some ⟨g',0,none⟩),.slice none 0 0],h3,by simp [World.setCell,Array.getElem?_modify,h4],?_,h6,fun u hu => ?_⟩
  ·unfold SV.Rs
   refine ⟨_,_,rfl,?_,?_⟩
   ·unfold SV.R;exact ⟨g',by rw [h3];rfl,rfl⟩
   ·unfold SV.Rs;exact ⟨_,_,rfl,oi.2 rfl,by unfold SV.Rs;rfl⟩
  ·simp only [List.mem_cons,List.not_mem_nil,or_false] at hu
   rcases hu with rfl | rfl <;> rfl
 obtain ⟨q1,q2⟩ := um hH ha hm (jL w g' 0 _) (fun k hk => by injection hk with hk;rw [← hk];exact hebg) hnew rfl
 exact ⟨_,μ,ρ,rfl,oi.2 ⟨[],rfl,rfl⟩,q1,fun i _ => rfl,q2⟩
theorem cc_used_e (bs : List UInt8) : FnE CC 41 2 [.off 0 0] (sbH bs) (.im (IV.tup [])) (sbH bs) 2 [0,1] := by
 refine ⟨cc_fn,rfl,rfl,rfl,rfl,rfl,rfl,fun ρ μ w vs hvs ha hH hnm => ?_⟩
 unfold SV.Rs at hvs
 obtain ⟨v0,vs',rfl,h0,hvs⟩ := hvs
 unfold SV.Rs at hvs
 subst hvs
 unfold SV.R at h0
 obtain ⟨g,h1,rfl⟩ := h0
 obtain ⟨g',us,h3,h4,h5,h6,h7⟩ := hH.1 _ (List.mem_cons_self : ((0 : Nat),HObj.blk 46 [.off 0 0,.row 1 bs.length]) ∈ sbH bs)
 rw [h3] at h1
 simp only [Option.bind_some,blk,Option.some.injEq] at h1
 subst h1
 unfold SV.Rs at h5
 obtain ⟨u0,r,e1,k0,h5⟩ := h5
 unfold SV.R at k0
 obtain ⟨g2,k1,rfl⟩ := k0
 rw [h3] at k1
 simp only [Option.bind_some,blk,Option.some.injEq] at k1
 subst k1
 refine (cc_used g' w (by rw [Lib.cell_of_heap h4,← Array.getElem?_toList,e1];rfl)).mono ?_
 rintro e w' ⟨rfl,rfl⟩
 exact ⟨_,μ,ρ,rfl,oi.2 ⟨[],rfl,rfl⟩,hH,fun i _ => rfl,⟨rfl,rfl,rfl,Nat.le_refl _,fun _ _ _ => rfl,Mem.le.refl _,fun b hb => .inl hb,ha,fun e he g hg => .inl ⟨e,he,hg⟩⟩⟩
theorem ws_used (bs s : List UInt8) (hb : bs.length + s.length ≤ 140737488355328) : FnE CC 12 2 [.off 0 0,.im (IV.str s)] (sbH bs) (.im (IV.tup [IV.int s.length,IV.val .nilIface])) (sbH2 (bs ++ s)) 3 [0] := by
 refine FnE.of_wp _ [(0,0)] Tryz.func12 rfl (by kernel_rfl) Tryz.ntmps12 rfl rfl rfl rfl rfl rfl rfl rfl rfl ?_
 intro F vs hD hvs
 obtain ⟨v0,v1,rfl⟩ := len2 hvs
 show WP _ _ _ _ _ ⟨[(0,.is v0 (.off 0 0)),(1,.im (IV.str s))],sbH bs,2⟩
 (refine zR ?_;(iterate 2 refine sI ?_);refine zN ?_)
 (refine zR ?_;refine sI ?_;refine ALK.e (o5 [0,1] (cc_used_e bs) EvsS.a rfl rfl rfl HIn.a) rfl rfl ?_;refine zN ?_)
 (refine zR ?_;(iterate 3 refine sI ?_);refine fI 1 ?_;(iterate 2 refine sI ?_);refine ALK.e (vl rfl rfl rfl rfl rfl (eB rfl) (eB rfl) rfl hb) rfl rfl ?_;refine sI ?_;refine fI 1 ?_;refine sI ?_;refine zN ?_)
 (refine zR ?_;refine sI ?_;refine ALK.n (oJ rfl (eB rfl)) rfl ?_;(iterate 2 refine sI ?_);refine zN ?_)
 refine WP.shift (Shift.sub (σ' := [(4,.im (IV.int s.length)),(5,.im (IV.val .nilIface)),(0,.is v0 (.off 0 0))]) (H' := sbH2 (bs ++ s)) (fr' := 3) [(0,0),(2,2)] rfl SubE.a (SubH.cons rfl rfl (ObLe.blk (SLes.cons (SLe.off rfl rfl) (SLes.cons (SLe.row rfl (by simp)) SLes.nil))) (SubH.cons rfl rfl (ObLe.row rfl) SubH.nil))) ?_
 exact zT Tryz.results12
theorem ws_fresh (s : List UInt8) (hb : s.length ≤ 140737488355328) : FnE CC 12 1 [.off 0 0,.im (IV.str s)] sbF (.im (IV.tup [IV.int s.length,IV.val .nilIface])) (sbH2 s) 3 [0] := by
 refine FnE.of_wp _ [(0,0)] Tryz.func12 rfl (by kernel_rfl) Tryz.ntmps12 rfl rfl rfl rfl rfl rfl rfl rfl rfl ?_
 intro F vs hD hvs
 obtain ⟨v0,v1,rfl⟩ := len2 hvs
 show WP _ _ _ _ _ ⟨[(0,.is v0 (.off 0 0)),(1,.im (IV.str s))],sbF,1⟩
 (refine zR ?_;(iterate 2 refine sI ?_);refine zN ?_)
 (refine zR ?_;refine sI ?_;refine ALK.e (o5 [0] cc_fresh_e EvsS.a rfl rfl rfl HIn.a) rfl rfl ?_;refine zN ?_)
 refine WP.shift (Shift.row0In 0 1 5 1 cU8 (fun _ => rfl) rfl rfl rfl) ?_
 (refine zR ?_;(iterate 3 refine sI ?_);refine fI 1 ?_;(iterate 2 refine sI ?_);refine ALK.e (vl (xs := []) rfl rfl rfl rfl rfl (eB rfl) (eB rfl) rfl (by simp;omega)) rfl rfl ?_;refine sI ?_;refine fI 1 ?_;refine sI ?_;refine zN ?_)
 (refine zR ?_;refine sI ?_;refine ALK.n (oJ rfl (eB rfl)) rfl ?_;(iterate 2 refine sI ?_);refine zN ?_)
 refine WP.shift (Shift.sub (σ' := [(4,.im (IV.int s.length)),(5,.im (IV.val .nilIface)),(0,.is v0 (.off 0 0))]) (H' := sbH2 s) (fr' := 3) [(0,0),(2,2)] rfl SubE.a (SubH.cons rfl rfl (ObLe.blk (SLes.cons (SLe.off rfl rfl) (SLes.cons (SLe.row rfl (by simp)) SLes.nil))) (SubH.cons rfl rfl (ObLe.row rfl) SubH.nil))) ?_
 exact zT Tryz.results12
theorem str_fresh : FnE CC 15 1 [.off 0 0] sbF (.im (IV.str [])) [] 1 [] := by
 refine ⟨st_fn,rfl,rfl,rfl,rfl,rfl,rfl,fun ρ μ w vs hvs ha hH hnm => ?_⟩
 unfold SV.Rs at hvs
 obtain ⟨v0,vs',rfl,h0,hvs⟩ := hvs
 unfold SV.Rs at hvs
 subst hvs
 unfold SV.R at h0
 obtain ⟨g,h1,rfl⟩ := h0
 obtain ⟨g',us,h3,h4,h5,h6,h7⟩ := hH.1 _ (List.mem_cons_self : ((0 : Nat),HObj.blk 46 [.im (IV.val (.pointer none)),.im (IV.val (.slice none 0 0))]) ∈ sbF)
 rw [h3] at h1
 simp only [Option.bind_some,blk,Option.some.injEq] at h1
 subst h1
 obtain ⟨u0,hus⟩ : ∃ u0,us = #[u0,.slice none 0 0] := by
  unfold SV.Rs at h5
  obtain ⟨u0,r,e1,k0,h5⟩ := h5
  unfold SV.Rs at h5
  obtain ⟨u1,r2,e2,k1,h5⟩ := h5
  unfold SV.Rs at h5
  have k1 : u1 = .slice none 0 0 := oi.1 k1
  subst h5 e2 k1
  exact ⟨u0,Array.ext' e1⟩
 subst hus
 refine (sb_string_nil g' u0 w h4).mono ?_
 rintro e w' ⟨rfl,ht⟩
 exact ⟨_,μ,ρ,rfl,oi.2 rfl,⟨(fun e he => by cases he),(fun e he => by cases he)⟩,(fun i hi => by cases hi),⟨ht.os,ht.tape,ht.output,ht.size,fun k hk _ => ht.block k hk (by simp),Mem.le.refl _,fun b hb => .inl hb,ha.turned ht (fun k e => by cases e),(fun e he => by cases he)⟩⟩
theorem str_used (bs : List UInt8) (h0 : bs ≠ []) : FnE CC 15 2 [.off 0 0] (sbH bs) (.im (IV.str bs)) [] 2 [] := by
 refine ⟨st_fn,rfl,rfl,rfl,rfl,rfl,rfl,fun ρ μ w vs hvs ha hH hnm => ?_⟩
 unfold SV.Rs at hvs
 obtain ⟨v0,vs',rfl,hv0,hvs⟩ := hvs
 unfold SV.Rs at hvs
 subst hvs
 unfold SV.R at hv0
 obtain ⟨g,h1,rfl⟩ := hv0
 obtain ⟨g',us,h3,h4,h5,h6,h7⟩ := hH.1 _ (List.mem_cons_self : ((0 : Nat),HObj.blk 46 [.off 0 0,.row 1 bs.length]) ∈ sbH bs)
 have hm1 : ((1 : Nat),HObj.row 5 1 cU8 bs) ∈ sbH bs := List.mem_cons_of_mem _ List.mem_cons_self
 obtain ⟨v,ws,r3,r4,r5,r6,r7,r8⟩ := hH.1 _ hm1
 rw [h3] at h1
 simp only [Option.bind_some,blk,Option.some.injEq] at h1
 subst h1
 obtain ⟨u0,hus⟩ : ∃ u0,us = #[u0,v] := by
  unfold SV.Rs at h5
  obtain ⟨u0,r,e1,k0,h5⟩ := h5
  unfold SV.Rs at h5
  obtain ⟨u1,r2,e2,k1,h5⟩ := h5
  unfold SV.Rs at h5
  unfold SV.R at k1
  rw [r3] at k1
  have k1 := Option.some.inj k1.1
  subst h5 e2 k1
  exact ⟨u0,Array.ext' e1⟩
 subst hus
 have hl0 : bs.length ≠ 0 := by simpa using h0
 have hws : ws = Lib.byteCells bs := by
  have h1 := cells_cU8 bs μ
  have key : ∀ (l : List UInt8) (a b : List Value),IVs μ (l.flatMap cU8) a → IVs μ (l.flatMap cU8) b → a = b := by
   intro l
   induction l with
   | nil => intro a b h k;cases h;cases k;rfl
   | cons x l ih =>
    rintro a b ⟨v,r,rfl,e1,h⟩ ⟨v',r',rfl,e2,k⟩
    have e1 : v = _ := e1
    have e2 : v' = _ := e2
    rw [e1,e2,ih r r' h k]
  exact key bs _ _ r5 h1
 subst hws
 rcases r4.2 with ⟨_,hn⟩ | ⟨g2,cap,cur,rfl,q1,q2,q3,q4,q5,q6⟩
 ·exact absurd hn hl0
 refine (sb_string g' g2 cap cur u0 bs w h4 r4 h0 q2 q3 q4 q5).mono ?_
 rintro e w' ⟨rfl,ht⟩
 have hebg : eb ρ (1,HObj.row 5 1 cU8 bs) g2 := yh (by simp [r3,blk])
 exact ⟨_,μ,ρ,rfl,oi.2 rfl,⟨(fun e he => by cases he),(fun e he => by cases he)⟩,(fun i hi => by cases hi),⟨ht.os,ht.tape,ht.output,ht.size,fun k hk hno => ht.block k hk (fun e => by injection e with e;subst e;exact hno _ hm1 hebg),Mem.le.refl _,fun b hb => .inl hb,ha.turned ht (fun k e => by injection e with e;subst e;exact ((hH.1 _ hm1).lt hebg).2),(fun e he => by cases he)⟩⟩
end Go.Proofs.YtjgmbgfcffnanaaGreatDoor
