/- The table of the types that the proofs name: each row is a closed fact of the program. -/
import Derived.Test.YtjgmbgfcffnanabGreatDoorProg
import Derived.Test.YtjgmbgfcffnanabGreatDoorZ0
namespace Go.Proofs.YtjgmbgfcffnanabGreatDoor
open Go.RowKit
def ty1 : TyInf := ⟨(TypeDesc.func #[] #[] false),.nilFunc,1,8⟩
def ty2 : TyInf := ⟨(TypeDesc.int IntKind.i64),.int .i64 0,1,8⟩
def ty3 : TyInf := ⟨(TypeDesc.int IntKind.i64),.int .i64 0,1,8⟩
def ty4 : TyInf := ⟨TypeDesc.bool,.bool false,1,1⟩
def ty5 : TyInf := ⟨(TypeDesc.int IntKind.u8),.int .u8 0,1,1⟩
def ty9 : TyInf := ⟨TypeDesc.string,.string ByteArray.empty,1,16⟩
def ty12 : TyInf := ⟨(TypeDesc.int IntKind.u64),.int .u64 0,1,8⟩
def ty16 : TyInf := ⟨(TypeDesc.pointer 248),.pointer none,1,8⟩
def ty20 : TyInf := ⟨(TypeDesc.interface #[]),.nilIface,1,16⟩
def ty21 : TyInf := ⟨(TypeDesc.int IntKind.i32),.int .i32 0,1,4⟩
def ty22 : TyInf := ⟨(TypeDesc.slice 46),.slice none 0 0,1,24⟩
def ty24 : TyInf := ⟨(TypeDesc.struct #[{ name := "Shards",type := 3,offset := 0,embedded := false,tag := "",pkgPath := "",byteOffset := 0 },{ name := "Txns",type := 22,offset := 1,embedded := false,tag := "",pkgPath := "",byteOffset := 8 }]),.agg #[.int .i64 0,.slice none 0 0],2,32⟩
def ty25 : TyInf := ⟨(TypeDesc.slice 31),.slice none 0 0,1,24⟩
def ty26 : TyInf := ⟨(TypeDesc.int IntKind.i64),.int .i64 0,1,8⟩
def ty31 : TyInf := ⟨(TypeDesc.struct #[{ name := "Kind",type := 3,offset := 0,embedded := false,tag := "",pkgPath := "",byteOffset := 0 },{ name := "Txn",type := 3,offset := 1,embedded := false,tag := "",pkgPath := "",byteOffset := 8 },{ name := "Shard",type := 3,offset := 2,embedded := false,tag := "",pkgPath := "",byteOffset := 16 }]),.agg #[.int .i64 0,.int .i64 0,.int .i64 0],3,24⟩
def ty32 : TyInf := ⟨(TypeDesc.func #[3] #[9] false),.nilFunc,1,8⟩
def ty33 : TyInf := ⟨(TypeDesc.func #[3,3] #[3] false),.nilFunc,1,8⟩
def ty37 : TyInf := ⟨(TypeDesc.pointer 40),.pointer none,1,8⟩
def ty38 : TyInf := ⟨(TypeDesc.slice 5),.slice none 0 0,1,24⟩
def ty40 : TyInf := ⟨(TypeDesc.struct #[{ name := "b",type := 38,offset := 0,embedded := false,tag := "",pkgPath := "marchpast/wire",byteOffset := 0 }]),.agg #[.slice none 0 0],1,24⟩
def ty42 : TyInf := ⟨(TypeDesc.slice 3),.slice none 0 0,1,24⟩
def ty43 : TyInf := ⟨(TypeDesc.slice 50),.slice none 0 0,1,24⟩
def ty44 : TyInf := ⟨(TypeDesc.slice 53),.slice none 0 0,1,24⟩
def ty46 : TyInf := ⟨(TypeDesc.struct #[{ name := "Reads",type := 42,offset := 0,embedded := false,tag := "",pkgPath := "",byteOffset := 0 },{ name := "Guards",type := 43,offset := 1,embedded := false,tag := "",pkgPath := "",byteOffset := 24 },{ name := "Sets",type := 44,offset := 2,embedded := false,tag := "",pkgPath := "",byteOffset := 48 }]),.agg #[.slice none 0 0,.slice none 0 0,.slice none 0 0],3,72⟩
def ty48 : TyInf := ⟨(TypeDesc.struct #[{ name := "Kind",type := 3,offset := 0,embedded := false,tag := "",pkgPath := "",byteOffset := 0 },{ name := "N",type := 3,offset := 1,embedded := false,tag := "",pkgPath := "",byteOffset := 8 }]),.agg #[.int .i64 0,.int .i64 0],2,16⟩
def ty50 : TyInf := ⟨(TypeDesc.struct #[{ name := "Kind",type := 3,offset := 0,embedded := false,tag := "",pkgPath := "",byteOffset := 0 },{ name := "A",type := 48,offset := 1,embedded := false,tag := "",pkgPath := "",byteOffset := 8 },{ name := "B",type := 48,offset := 3,embedded := false,tag := "",pkgPath := "",byteOffset := 24 }]),.agg #[.int .i64 0,.int .i64 0,.int .i64 0,.int .i64 0,.int .i64 0],5,40⟩
def ty53 : TyInf := ⟨(TypeDesc.struct #[{ name := "Key",type := 3,offset := 0,embedded := false,tag := "",pkgPath := "",byteOffset := 0 },{ name := "Op",type := 3,offset := 1,embedded := false,tag := "",pkgPath := "",byteOffset := 8 },{ name := "A",type := 48,offset := 2,embedded := false,tag := "",pkgPath := "",byteOffset := 16 },{ name := "B",type := 48,offset := 4,embedded := false,tag := "",pkgPath := "",byteOffset := 32 }]),.agg #[.int .i64 0,.int .i64 0,.int .i64 0,.int .i64 0,.int .i64 0,.int .i64 0],6,48⟩
def ty59 : TyInf := ⟨(TypeDesc.pointer 65),.pointer none,1,8⟩
def ty60 : TyInf := ⟨(TypeDesc.slice 109),.slice none 0 0,1,24⟩
def ty61 : TyInf := ⟨(TypeDesc.slice 42),.slice none 0 0,1,24⟩
def ty63 : TyInf := ⟨(TypeDesc.struct #[{ name := "Store",type := 42,offset := 0,embedded := false,tag := "",pkgPath := "",byteOffset := 0 },{ name := "Read",type := 60,offset := 1,embedded := false,tag := "",pkgPath := "",byteOffset := 24 },{ name := "Wrote",type := 60,offset := 2,embedded := false,tag := "",pkgPath := "",byteOffset := 48 },{ name := "Vals",type := 61,offset := 3,embedded := false,tag := "",pkgPath := "",byteOffset := 72 }]),.agg #[.slice none 0 0,.slice none 0 0,.slice none 0 0,.slice none 0 0],4,96⟩
def ty64 : TyInf := ⟨(TypeDesc.struct #[{ name := "p",type := 24,offset := 0,embedded := false,tag := "",pkgPath := "marchpast/desk",byteOffset := 0 },{ name := "first",type := 42,offset := 2,embedded := false,tag := "",pkgPath := "marchpast/desk",byteOffset := 32 },{ name := "s",type := 63,offset := 3,embedded := false,tag := "",pkgPath := "marchpast/desk",byteOffset := 56 }]),.agg #[.int .i64 0,.slice none 0 0,.slice none 0 0,.slice none 0 0,.slice none 0 0,.slice none 0 0,.slice none 0 0],7,152⟩
def ty65 : TyInf := ⟨(TypeDesc.struct #[{ name := "p",type := 24,offset := 0,embedded := false,tag := "",pkgPath := "marchpast/desk",byteOffset := 0 },{ name := "first",type := 42,offset := 2,embedded := false,tag := "",pkgPath := "marchpast/desk",byteOffset := 32 },{ name := "s",type := 63,offset := 3,embedded := false,tag := "",pkgPath := "marchpast/desk",byteOffset := 56 }]),.agg #[.int .i64 0,.slice none 0 0,.slice none 0 0,.slice none 0 0,.slice none 0 0,.slice none 0 0,.slice none 0 0],7,152⟩
def ty68 : TyInf := ⟨(TypeDesc.pointer 70),.pointer none,1,8⟩
def ty70 : TyInf := ⟨(TypeDesc.struct #[{ name := "addr",type := 68,offset := 0,embedded := false,tag := "",pkgPath := "strings",byteOffset := 0 },{ name := "buf",type := 38,offset := 1,embedded := false,tag := "",pkgPath := "strings",byteOffset := 8 }]),.agg #[.pointer none,.slice none 0 0],2,32⟩
def ty75 : TyInf := ⟨(TypeDesc.interface #[("Error",80)]),.nilIface,1,16⟩
def ty82 : TyInf := ⟨(TypeDesc.slice 48),.slice none 0 0,1,24⟩
def ty85 : TyInf := ⟨(TypeDesc.pointer 87),.pointer none,1,8⟩
def ty87 : TyInf := ⟨(TypeDesc.struct #[{ name := "s",type := 9,offset := 0,embedded := false,tag := "",pkgPath := "marchpast/wire",byteOffset := 0 }]),.agg #[.string ByteArray.empty],1,16⟩
def ty89 : TyInf := ⟨(TypeDesc.pointer 3),.pointer none,1,8⟩
def ty91 : TyInf := ⟨(TypeDesc.pointer 46),.pointer none,1,8⟩
def ty93 : TyInf := ⟨(TypeDesc.func #[89] #[] false),.nilFunc,1,8⟩
def ty95 : TyInf := ⟨(TypeDesc.pointer 50),.pointer none,1,8⟩
def ty97 : TyInf := ⟨(TypeDesc.pointer 48),.pointer none,1,8⟩
def ty98 : TyInf := ⟨(TypeDesc.func #[95] #[] false),.nilFunc,1,8⟩
def ty100 : TyInf := ⟨(TypeDesc.pointer 53),.pointer none,1,8⟩
def ty101 : TyInf := ⟨(TypeDesc.func #[100] #[] false),.nilFunc,1,8⟩
def ty102 : TyInf := ⟨(TypeDesc.func #[91] #[] false),.nilFunc,1,8⟩
def ty104 : TyInf := ⟨(TypeDesc.struct #[]),.agg #[],0,0⟩
def ty109 : TyInf := ⟨(TypeDesc.slice 4),.slice none 0 0,1,24⟩
def ty112 : TyInf := ⟨(TypeDesc.struct #[{ name := "e",type := 26,offset := 0,embedded := false,tag := "",pkgPath := "marchpast/desk",byteOffset := 0 }]),.agg #[.int .i64 0],1,8⟩
def ty114 : TyInf := ⟨(TypeDesc.slice 9),.slice none 0 0,1,24⟩
def ty118 : TyInf := ⟨(TypeDesc.pointer 63),.pointer none,1,8⟩
def ty119 : TyInf := ⟨(TypeDesc.slice 146),.slice none 0 0,1,24⟩
def ty129 : TyInf := ⟨(TypeDesc.pointer 5),.pointer none,1,8⟩
def ty132 : TyInf := ⟨(TypeDesc.slice 89),.slice none 0 0,1,24⟩
def ty134 : TyInf := ⟨(TypeDesc.slice 97),.slice none 0 0,1,24⟩
def ty138 : TyInf := ⟨(TypeDesc.array 3 9),.agg #[.string ByteArray.empty,.string ByteArray.empty,.string ByteArray.empty],3,48⟩
def ty146 : TyInf := ⟨(TypeDesc.struct #[{ name := "Done",type := 4,offset := 0,embedded := false,tag := "",pkgPath := "",byteOffset := 0 },{ name := "Vals",type := 42,offset := 1,embedded := false,tag := "",pkgPath := "",byteOffset := 8 }]),.agg #[.bool false,.slice none 0 0],2,32⟩
def ty155 : TyInf := ⟨(TypeDesc.struct #[{ name := "e",type := 26,offset := 0,embedded := false,tag := "",pkgPath := "marchpast/txn",byteOffset := 0 }]),.agg #[.int .i64 0],1,8⟩
def ty165 : TyInf := ⟨(TypeDesc.int IntKind.u64),.int .u64 0,1,8⟩
def ty167 : TyInf := ⟨(TypeDesc.pointer 24),.pointer none,1,8⟩
def ty168 : TyInf := ⟨(TypeDesc.slice 173),.slice none 0 0,1,24⟩
def ty170 : TyInf := ⟨(TypeDesc.struct #[{ name := "Plan",type := 167,offset := 0,embedded := true,tag := "",pkgPath := "",byteOffset := 0 },{ name := "State",type := 63,offset := 1,embedded := true,tag := "",pkgPath := "",byteOffset := 8 },{ name := "seats",type := 168,offset := 5,embedded := false,tag := "",pkgPath := "marchpast/steps",byteOffset := 104 }]),.agg #[.pointer none,.slice none 0 0,.slice none 0 0,.slice none 0 0,.slice none 0 0,.slice none 0 0],6,128⟩
def ty171 : TyInf := ⟨(TypeDesc.pointer 170),.pointer none,1,8⟩
def ty173 : TyInf := ⟨(TypeDesc.slice 176),.slice none 0 0,1,24⟩
def ty176 : TyInf := ⟨(TypeDesc.struct #[{ name := "part",type := 4,offset := 0,embedded := false,tag := "",pkgPath := "marchpast/steps",byteOffset := 0 },{ name := "active",type := 4,offset := 1,embedded := false,tag := "",pkgPath := "marchpast/steps",byteOffset := 1 },{ name := "read",type := 4,offset := 2,embedded := false,tag := "",pkgPath := "marchpast/steps",byteOffset := 2 },{ name := "wrote",type := 4,offset := 3,embedded := false,tag := "",pkgPath := "marchpast/steps",byteOffset := 3 }]),.agg #[.bool false,.bool false,.bool false,.bool false],4,4⟩
def ty177 : TyInf := ⟨(TypeDesc.func #[176] #[4] false),.nilFunc,1,8⟩
def ty187 : TyInf := ⟨(TypeDesc.slice 26),.slice none 0 0,1,24⟩
def ty190 : TyInf := ⟨(TypeDesc.map 3 33),.map none,1,8⟩
def ty192 : TyInf := ⟨(TypeDesc.int IntKind.u32),.int .u32 0,1,4⟩
def ty195 : TyInf := ⟨(TypeDesc.array 24 5),.agg #[.int .u8 0,.int .u8 0,.int .u8 0,.int .u8 0,.int .u8 0,.int .u8 0,.int .u8 0,.int .u8 0,.int .u8 0,.int .u8 0,.int .u8 0,.int .u8 0,.int .u8 0,.int .u8 0,.int .u8 0,.int .u8 0,.int .u8 0,.int .u8 0,.int .u8 0,.int .u8 0,.int .u8 0,.int .u8 0,.int .u8 0,.int .u8 0],24,24⟩
def ty196 : TyInf := ⟨(TypeDesc.int IntKind.u64),.int .u64 0,1,8⟩
def ty204 : TyInf := ⟨(TypeDesc.func #[186] #[] false),.nilFunc,1,8⟩
def ty206 : TyInf := ⟨(TypeDesc.array 2 3),.agg #[.int .i64 0,.int .i64 0],2,16⟩
def ty210 : TyInf := ⟨(TypeDesc.int IntKind.i64),.int .i64 0,1,8⟩
def ty213 : TyInf := ⟨(TypeDesc.pointer 226),.pointer none,1,8⟩
def ty217 : TyInf := ⟨(TypeDesc.func #[3] #[4] false),.nilFunc,1,8⟩
def ty219 : TyInf := ⟨(TypeDesc.array 20 196),.agg #[.int .u64 0,.int .u64 0,.int .u64 0,.int .u64 0,.int .u64 0,.int .u64 0,.int .u64 0,.int .u64 0,.int .u64 0,.int .u64 0,.int .u64 0,.int .u64 0,.int .u64 0,.int .u64 0,.int .u64 0,.int .u64 0,.int .u64 0,.int .u64 0,.int .u64 0,.int .u64 0],20,160⟩
def ty226 : TyInf := ⟨(TypeDesc.struct #[{ name := "Func",type := 9,offset := 0,embedded := false,tag := "",pkgPath := "",byteOffset := 0 },{ name := "Num",type := 9,offset := 1,embedded := false,tag := "",pkgPath := "",byteOffset := 16 },{ name := "Err",type := 75,offset := 2,embedded := false,tag := "",pkgPath := "",byteOffset := 32 }]),.agg #[.string ByteArray.empty,.string ByteArray.empty,.nilIface],3,48⟩
def ty232 : TyInf := ⟨(TypeDesc.struct #[{ name := "lo",type := 5,offset := 0,embedded := false,tag := "",pkgPath := "unicode/utf8",byteOffset := 0 },{ name := "hi",type := 5,offset := 1,embedded := false,tag := "",pkgPath := "unicode/utf8",byteOffset := 1 }]),.agg #[.int .u8 0,.int .u8 0],2,2⟩
def ty233 : TyInf := ⟨(TypeDesc.array 16 232),.agg #[.int .u8 0,.int .u8 0,.int .u8 0,.int .u8 0,.int .u8 0,.int .u8 0,.int .u8 0,.int .u8 0,.int .u8 0,.int .u8 0,.int .u8 0,.int .u8 0,.int .u8 0,.int .u8 0,.int .u8 0,.int .u8 0,.int .u8 0,.int .u8 0,.int .u8 0,.int .u8 0,.int .u8 0,.int .u8 0,.int .u8 0,.int .u8 0,.int .u8 0,.int .u8 0,.int .u8 0,.int .u8 0,.int .u8 0,.int .u8 0,.int .u8 0,.int .u8 0],32,32⟩
def ty235 : TyInf := ⟨(TypeDesc.pointer 237),.pointer none,1,8⟩
def ty237 : TyInf := ⟨(TypeDesc.struct #[{ name := "s",type := 9,offset := 0,embedded := false,tag := "",pkgPath := "errors",byteOffset := 0 }]),.agg #[.string ByteArray.empty],1,16⟩
def ty240 : TyInf := ⟨(TypeDesc.array 32 5),.agg #[.int .u8 0,.int .u8 0,.int .u8 0,.int .u8 0,.int .u8 0,.int .u8 0,.int .u8 0,.int .u8 0,.int .u8 0,.int .u8 0,.int .u8 0,.int .u8 0,.int .u8 0,.int .u8 0,.int .u8 0,.int .u8 0,.int .u8 0,.int .u8 0,.int .u8 0,.int .u8 0,.int .u8 0,.int .u8 0,.int .u8 0,.int .u8 0,.int .u8 0,.int .u8 0,.int .u8 0,.int .u8 0,.int .u8 0,.int .u8 0,.int .u8 0,.int .u8 0],32,32⟩
def ty250 : TyInf := ⟨(TypeDesc.int IntKind.u8),.int .u8 0,1,1⟩
def ty251 : TyInf := ⟨(TypeDesc.int IntKind.u8),.int .u8 0,1,1⟩
def ty252 : TyInf := ⟨(TypeDesc.func #[135,135] #[4] false),.nilFunc,1,8⟩
def ty253 : TyInf := ⟨(TypeDesc.int IntKind.i32),.int .i32 0,1,4⟩
def ty254 : TyInf := ⟨(TypeDesc.int IntKind.i32),.int .i32 0,1,4⟩
def ty256 : TyInf := ⟨(TypeDesc.struct #[{ name := "Size_",type := 12,offset := 0,embedded := false,tag := "",pkgPath := "",byteOffset := 0 },{ name := "PtrBytes",type := 12,offset := 1,embedded := false,tag := "",pkgPath := "",byteOffset := 8 },{ name := "Hash",type := 192,offset := 2,embedded := false,tag := "",pkgPath := "",byteOffset := 16 },{ name := "TFlag",type := 250,offset := 3,embedded := false,tag := "",pkgPath := "",byteOffset := 20 },{ name := "Align_",type := 5,offset := 4,embedded := false,tag := "",pkgPath := "",byteOffset := 21 },{ name := "FieldAlign_",type := 5,offset := 5,embedded := false,tag := "",pkgPath := "",byteOffset := 22 },{ name := "Kind_",type := 251,offset := 6,embedded := false,tag := "",pkgPath := "",byteOffset := 23 },{ name := "Equal",type := 252,offset := 7,embedded := false,tag := "",pkgPath := "",byteOffset := 24 },{ name := "GCData",type := 129,offset := 8,embedded := false,tag := "",pkgPath := "",byteOffset := 32 },{ name := "Str",type := 253,offset := 9,embedded := false,tag := "",pkgPath := "",byteOffset := 40 },{ name := "PtrToThis",type := 254,offset := 10,embedded := false,tag := "",pkgPath := "",byteOffset := 44 }]),.agg #[.int .u64 0,.int .u64 0,.int .u32 0,.int .u8 0,.int .u8 0,.int .u8 0,.int .u8 0,.nilFunc,.pointer none,.int .i32 0,.int .i32 0],11,48⟩
def ttl : List (Nat × TyInf) := [(1,ty1),(2,ty2),(3,ty3),(4,ty4),(5,ty5),(9,ty9),(12,ty12),(16,ty16),(20,ty20),(21,ty21),(22,ty22),(24,ty24),(25,ty25),(26,ty26),(31,ty31),(32,ty32),(33,ty33),(37,ty37),(38,ty38),(40,ty40),(42,ty42),(43,ty43),(44,ty44),(46,ty46),(48,ty48),(50,ty50),(53,ty53),(59,ty59),(60,ty60),(61,ty61),(63,ty63),(64,ty64),(65,ty65),(68,ty68),(70,ty70),(75,ty75),(82,ty82),(85,ty85),(87,ty87),(89,ty89),(91,ty91),(93,ty93),(95,ty95),(97,ty97),(98,ty98),(100,ty100),(101,ty101),(102,ty102),(104,ty104),(109,ty109),(112,ty112),(114,ty114),(118,ty118),(119,ty119),(129,ty129),(132,ty132),(134,ty134),(138,ty138),(146,ty146),(155,ty155),(165,ty165),(167,ty167),(168,ty168),(170,ty170),(171,ty171),(173,ty173),(176,ty176),(177,ty177),(187,ty187),(190,ty190),(192,ty192),(195,ty195),(196,ty196),(204,ty204),(206,ty206),(210,ty210),(213,ty213),(217,ty217),(219,ty219),(226,ty226),(232,ty232),(233,ty233),(235,ty235),(237,ty237),(240,ty240),(250,ty250),(251,ty251),(252,ty252),(253,ty253),(254,ty254),(256,ty256)]
def ttAt : List (Nat × TyInf) → Nat → Option TyInf
 | [],_ => none
 | (i,d) :: l,t => match Nat.beq i t with
  | true => some d
  | false => ttAt l t
inductive Ttl (P : Program) : List (Nat × TyInf) → Prop
 | nil : Ttl P []
 | cons {t : Nat} {d : TyInf} {l : List (Nat × TyInf)} (h : TyIs P t d) (k : Ttl P l) : Ttl P ((t,d) :: l)
theorem Ttl.ok {P : Program} {l : List (Nat × TyInf)} (h : Ttl P l) : ∀ t d,ttAt l t = some d → TyIs P t d := by
 induction h with
 | nil => intro t d e;cases e
 | @cons i d0 l h k ih =>
  intro t d e
  simp only [ttAt] at e
  cases hb : Nat.beq i t with
  | true => rw [hb] at e;injection e with e;subst e;rw [← Nat.eq_of_beq_eq_true hb];exact h
  | false => rw [hb] at e;exact ih t d e
theorem ttl_ok : Ttl Tryz.prog ttl :=
 .cons ⟨Tryz.underlying1,info_parts (by kernel_rfl)⟩ <|
 .cons ⟨Tryz.underlying2,info_parts (by kernel_rfl)⟩ <|
 .cons ⟨Tryz.underlying3,info_parts (by kernel_rfl)⟩ <|
 .cons ⟨Tryz.underlying4,info_parts (by kernel_rfl)⟩ <|
 .cons ⟨Tryz.underlying5,info_parts (by kernel_rfl)⟩ <|
 .cons ⟨Tryz.underlying9,info_parts (by kernel_rfl)⟩ <|
 .cons ⟨Tryz.underlying12,info_parts (by kernel_rfl)⟩ <|
 .cons ⟨Tryz.underlying16,info_parts (by kernel_rfl)⟩ <|
 .cons ⟨Tryz.underlying20,info_parts (by kernel_rfl)⟩ <|
 .cons ⟨Tryz.underlying21,info_parts (by kernel_rfl)⟩ <|
 .cons ⟨Tryz.underlying22,info_parts (by kernel_rfl)⟩ <|
 .cons ⟨Tryz.underlying24,info_parts (by kernel_rfl)⟩ <|
 .cons ⟨Tryz.underlying25,info_parts (by kernel_rfl)⟩ <|
 .cons ⟨Tryz.underlying26,info_parts (by kernel_rfl)⟩ <|
 .cons ⟨Tryz.underlying31,info_parts (by kernel_rfl)⟩ <|
 .cons ⟨Tryz.underlying32,info_parts (by kernel_rfl)⟩ <|
 .cons ⟨Tryz.underlying33,info_parts (by kernel_rfl)⟩ <|
 .cons ⟨Tryz.underlying37,info_parts (by kernel_rfl)⟩ <|
 .cons ⟨Tryz.underlying38,info_parts (by kernel_rfl)⟩ <|
 .cons ⟨Tryz.underlying40,info_parts (by kernel_rfl)⟩ <|
 .cons ⟨Tryz.underlying42,info_parts (by kernel_rfl)⟩ <|
 .cons ⟨Tryz.underlying43,info_parts (by kernel_rfl)⟩ <|
 .cons ⟨Tryz.underlying44,info_parts (by kernel_rfl)⟩ <|
 .cons ⟨Tryz.underlying46,info_parts (by kernel_rfl)⟩ <|
 .cons ⟨Tryz.underlying48,info_parts (by kernel_rfl)⟩ <|
 .cons ⟨Tryz.underlying50,info_parts (by kernel_rfl)⟩ <|
 .cons ⟨Tryz.underlying53,info_parts (by kernel_rfl)⟩ <|
 .cons ⟨Tryz.underlying59,info_parts (by kernel_rfl)⟩ <|
 .cons ⟨Tryz.underlying60,info_parts (by kernel_rfl)⟩ <|
 .cons ⟨Tryz.underlying61,info_parts (by kernel_rfl)⟩ <|
 .cons ⟨Tryz.underlying63,info_parts (by kernel_rfl)⟩ <|
 .cons ⟨Tryz.underlying64,info_parts (by kernel_rfl)⟩ <|
 .cons ⟨Tryz.underlying65,info_parts (by kernel_rfl)⟩ <|
 .cons ⟨Tryz.underlying68,info_parts (by kernel_rfl)⟩ <|
 .cons ⟨Tryz.underlying70,info_parts (by kernel_rfl)⟩ <|
 .cons ⟨Tryz.underlying75,info_parts (by kernel_rfl)⟩ <|
 .cons ⟨Tryz.underlying82,info_parts (by kernel_rfl)⟩ <|
 .cons ⟨Tryz.underlying85,info_parts (by kernel_rfl)⟩ <|
 .cons ⟨Tryz.underlying87,info_parts (by kernel_rfl)⟩ <|
 .cons ⟨Tryz.underlying89,info_parts (by kernel_rfl)⟩ <|
 .cons ⟨Tryz.underlying91,info_parts (by kernel_rfl)⟩ <|
 .cons ⟨Tryz.underlying93,info_parts (by kernel_rfl)⟩ <|
 .cons ⟨Tryz.underlying95,info_parts (by kernel_rfl)⟩ <|
 .cons ⟨Tryz.underlying97,info_parts (by kernel_rfl)⟩ <|
 .cons ⟨Tryz.underlying98,info_parts (by kernel_rfl)⟩ <|
 .cons ⟨Tryz.underlying100,info_parts (by kernel_rfl)⟩ <|
 .cons ⟨Tryz.underlying101,info_parts (by kernel_rfl)⟩ <|
 .cons ⟨Tryz.underlying102,info_parts (by kernel_rfl)⟩ <|
 .cons ⟨Tryz.underlying104,info_parts (by kernel_rfl)⟩ <|
 .cons ⟨Tryz.underlying109,info_parts (by kernel_rfl)⟩ <|
 .cons ⟨Tryz.underlying112,info_parts (by kernel_rfl)⟩ <|
 .cons ⟨Tryz.underlying114,info_parts (by kernel_rfl)⟩ <|
 .cons ⟨Tryz.underlying118,info_parts (by kernel_rfl)⟩ <|
 .cons ⟨Tryz.underlying119,info_parts (by kernel_rfl)⟩ <|
 .cons ⟨Tryz.underlying129,info_parts (by kernel_rfl)⟩ <|
 .cons ⟨Tryz.underlying132,info_parts (by kernel_rfl)⟩ <|
 .cons ⟨Tryz.underlying134,info_parts (by kernel_rfl)⟩ <|
 .cons ⟨Tryz.underlying138,info_parts (by kernel_rfl)⟩ <|
 .cons ⟨Tryz.underlying146,info_parts (by kernel_rfl)⟩ <|
 .cons ⟨Tryz.underlying155,info_parts (by kernel_rfl)⟩ <|
 .cons ⟨Tryz.underlying165,info_parts (by kernel_rfl)⟩ <|
 .cons ⟨Tryz.underlying167,info_parts (by kernel_rfl)⟩ <|
 .cons ⟨Tryz.underlying168,info_parts (by kernel_rfl)⟩ <|
 .cons ⟨Tryz.underlying170,info_parts (by kernel_rfl)⟩ <|
 .cons ⟨Tryz.underlying171,info_parts (by kernel_rfl)⟩ <|
 .cons ⟨Tryz.underlying173,info_parts (by kernel_rfl)⟩ <|
 .cons ⟨Tryz.underlying176,info_parts (by kernel_rfl)⟩ <|
 .cons ⟨Tryz.underlying177,info_parts (by kernel_rfl)⟩ <|
 .cons ⟨Tryz.underlying187,info_parts (by kernel_rfl)⟩ <|
 .cons ⟨Tryz.underlying190,info_parts (by kernel_rfl)⟩ <|
 .cons ⟨Tryz.underlying192,info_parts (by kernel_rfl)⟩ <|
 .cons ⟨Tryz.underlying195,info_parts (by kernel_rfl)⟩ <|
 .cons ⟨Tryz.underlying196,info_parts (by kernel_rfl)⟩ <|
 .cons ⟨Tryz.underlying204,info_parts (by kernel_rfl)⟩ <|
 .cons ⟨Tryz.underlying206,info_parts (by kernel_rfl)⟩ <|
 .cons ⟨Tryz.underlying210,info_parts (by kernel_rfl)⟩ <|
 .cons ⟨Tryz.underlying213,info_parts (by kernel_rfl)⟩ <|
 .cons ⟨Tryz.underlying217,info_parts (by kernel_rfl)⟩ <|
 .cons ⟨Tryz.underlying219,info_parts (by kernel_rfl)⟩ <|
 .cons ⟨Tryz.underlying226,info_parts (by kernel_rfl)⟩ <|
 .cons ⟨Tryz.underlying232,info_parts (by kernel_rfl)⟩ <|
 .cons ⟨Tryz.underlying233,info_parts (by kernel_rfl)⟩ <|
 .cons ⟨Tryz.underlying235,info_parts (by kernel_rfl)⟩ <|
 .cons ⟨Tryz.underlying237,info_parts (by kernel_rfl)⟩ <|
 .cons ⟨Tryz.underlying240,info_parts (by kernel_rfl)⟩ <|
 .cons ⟨Tryz.underlying250,info_parts (by kernel_rfl)⟩ <|
 .cons ⟨Tryz.underlying251,info_parts (by kernel_rfl)⟩ <|
 .cons ⟨Tryz.underlying252,info_parts (by kernel_rfl)⟩ <|
 .cons ⟨Tryz.underlying253,info_parts (by kernel_rfl)⟩ <|
 .cons ⟨Tryz.underlying254,info_parts (by kernel_rfl)⟩ <|
 .cons ⟨Tryz.underlying256,info_parts (by kernel_rfl)⟩ <|
  .nil
theorem mixd : Tryz.prog.follows .mixedOrders = true := by kernel_rfl
noncomputable abbrev CC : Cfg := Cfg.mk Tryz.prog (ttAt ttl) ttl_ok.ok mixd
end Go.Proofs.YtjgmbgfcffnanabGreatDoor
