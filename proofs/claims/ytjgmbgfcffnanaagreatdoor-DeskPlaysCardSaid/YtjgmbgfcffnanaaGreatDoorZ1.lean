/- The table of the types that the proofs name: each row is a closed fact of the program. -/
import Derived.Test.YtjgmbgfcffnanaaGreatDoorProg
import Derived.Test.YtjgmbgfcffnanaaGreatDoorZ0
namespace Go.Proofs.YtjgmbgfcffnanaaGreatDoor
open Go.RowKit
def ty1 : TyInf := ⟨(TypeDesc.func #[] #[] false),.nilFunc,1,8⟩
def ty2 : TyInf := ⟨(TypeDesc.int IntKind.i64),.int .i64 0,1,8⟩
def ty3 : TyInf := ⟨(TypeDesc.int IntKind.i64),.int .i64 0,1,8⟩
def ty4 : TyInf := ⟨TypeDesc.bool,.bool false,1,1⟩
def ty5 : TyInf := ⟨(TypeDesc.int IntKind.u8),.int .u8 0,1,1⟩
def ty6 : TyInf := ⟨(TypeDesc.int IntKind.u8),.int .u8 0,1,1⟩
def ty9 : TyInf := ⟨TypeDesc.string,.string ByteArray.empty,1,16⟩
def ty16 : TyInf := ⟨(TypeDesc.pointer 280),.pointer none,1,8⟩
def ty20 : TyInf := ⟨(TypeDesc.interface #[]),.nilIface,1,16⟩
def ty21 : TyInf := ⟨(TypeDesc.int IntKind.i32),.int .i32 0,1,4⟩
def ty22 : TyInf := ⟨(TypeDesc.int IntKind.i64),.int .i64 0,1,8⟩
def ty24 : TyInf := ⟨(TypeDesc.func #[9,9] #[9,22] false),.nilFunc,1,8⟩
def ty27 : TyInf := ⟨(TypeDesc.slice 75),.slice none 0 0,1,24⟩
def ty29 : TyInf := ⟨(TypeDesc.struct #[{ name := "Shards",type := 3,offset := 0,embedded := false,tag := "",pkgPath := "",byteOffset := 0 },{ name := "Txns",type := 27,offset := 1,embedded := false,tag := "",pkgPath := "",byteOffset := 8 }]),.agg #[.int .i64 0,.slice none 0 0],2,32⟩
def ty32 : TyInf := ⟨(TypeDesc.func #[9,9] #[3] false),.nilFunc,1,8⟩
def ty33 : TyInf := ⟨(TypeDesc.pointer 40),.pointer none,1,8⟩
def ty34 : TyInf := ⟨(TypeDesc.slice 3),.slice none 0 0,1,24⟩
def ty35 : TyInf := ⟨(TypeDesc.slice 101),.slice none 0 0,1,24⟩
def ty36 : TyInf := ⟨(TypeDesc.slice 34),.slice none 0 0,1,24⟩
def ty38 : TyInf := ⟨(TypeDesc.struct #[{ name := "Store",type := 34,offset := 0,embedded := false,tag := "",pkgPath := "",byteOffset := 0 },{ name := "Read",type := 35,offset := 1,embedded := false,tag := "",pkgPath := "",byteOffset := 24 },{ name := "Wrote",type := 35,offset := 2,embedded := false,tag := "",pkgPath := "",byteOffset := 48 },{ name := "Vals",type := 36,offset := 3,embedded := false,tag := "",pkgPath := "",byteOffset := 72 }]),.agg #[.slice none 0 0,.slice none 0 0,.slice none 0 0,.slice none 0 0],4,96⟩
def ty40 : TyInf := ⟨(TypeDesc.struct #[{ name := "p",type := 29,offset := 0,embedded := false,tag := "",pkgPath := "marchpast/desk",byteOffset := 0 },{ name := "first",type := 34,offset := 2,embedded := false,tag := "",pkgPath := "marchpast/desk",byteOffset := 32 },{ name := "s",type := 38,offset := 3,embedded := false,tag := "",pkgPath := "marchpast/desk",byteOffset := 56 }]),.agg #[.int .i64 0,.slice none 0 0,.slice none 0 0,.slice none 0 0,.slice none 0 0,.slice none 0 0,.slice none 0 0],7,152⟩
def ty43 : TyInf := ⟨(TypeDesc.pointer 46),.pointer none,1,8⟩
def ty44 : TyInf := ⟨(TypeDesc.slice 5),.slice none 0 0,1,24⟩
def ty46 : TyInf := ⟨(TypeDesc.struct #[{ name := "addr",type := 43,offset := 0,embedded := false,tag := "",pkgPath := "strings",byteOffset := 0 },{ name := "buf",type := 44,offset := 1,embedded := false,tag := "",pkgPath := "strings",byteOffset := 8 }]),.agg #[.pointer none,.slice none 0 0],2,32⟩
def ty51 : TyInf := ⟨(TypeDesc.interface #[("Error",56)]),.nilIface,1,16⟩
def ty59 : TyInf := ⟨(TypeDesc.pointer 62),.pointer none,1,8⟩
def ty62 : TyInf := ⟨(TypeDesc.struct #[{ name := "P",type := 29,offset := 0,embedded := false,tag := "",pkgPath := "",byteOffset := 0 },{ name := "First",type := 34,offset := 2,embedded := false,tag := "",pkgPath := "",byteOffset := 32 },{ name := "S",type := 38,offset := 3,embedded := false,tag := "",pkgPath := "",byteOffset := 56 }]),.agg #[.int .i64 0,.slice none 0 0,.slice none 0 0,.slice none 0 0,.slice none 0 0,.slice none 0 0,.slice none 0 0],7,152⟩
def ty64 : TyInf := ⟨(TypeDesc.func #[29] #[9,22] false),.nilFunc,1,8⟩
def ty65 : TyInf := ⟨(TypeDesc.func #[] #[29] false),.nilFunc,1,8⟩
def ty66 : TyInf := ⟨(TypeDesc.pointer 68),.pointer none,1,8⟩
def ty68 : TyInf := ⟨(TypeDesc.struct #[{ name := "s",type := 9,offset := 0,embedded := false,tag := "",pkgPath := "marchpast/wire",byteOffset := 0 }]),.agg #[.string ByteArray.empty],1,16⟩
def ty70 : TyInf := ⟨(TypeDesc.pointer 3),.pointer none,1,8⟩
def ty72 : TyInf := ⟨(TypeDesc.slice 83),.slice none 0 0,1,24⟩
def ty73 : TyInf := ⟨(TypeDesc.slice 90),.slice none 0 0,1,24⟩
def ty75 : TyInf := ⟨(TypeDesc.struct #[{ name := "Reads",type := 34,offset := 0,embedded := false,tag := "",pkgPath := "",byteOffset := 0 },{ name := "Guards",type := 72,offset := 1,embedded := false,tag := "",pkgPath := "",byteOffset := 24 },{ name := "Sets",type := 73,offset := 2,embedded := false,tag := "",pkgPath := "",byteOffset := 48 }]),.agg #[.slice none 0 0,.slice none 0 0,.slice none 0 0],3,72⟩
def ty76 : TyInf := ⟨(TypeDesc.pointer 75),.pointer none,1,8⟩
def ty78 : TyInf := ⟨(TypeDesc.func #[70] #[] false),.nilFunc,1,8⟩
def ty81 : TyInf := ⟨(TypeDesc.struct #[{ name := "Kind",type := 3,offset := 0,embedded := false,tag := "",pkgPath := "",byteOffset := 0 },{ name := "N",type := 3,offset := 1,embedded := false,tag := "",pkgPath := "",byteOffset := 8 }]),.agg #[.int .i64 0,.int .i64 0],2,16⟩
def ty83 : TyInf := ⟨(TypeDesc.struct #[{ name := "Kind",type := 3,offset := 0,embedded := false,tag := "",pkgPath := "",byteOffset := 0 },{ name := "A",type := 81,offset := 1,embedded := false,tag := "",pkgPath := "",byteOffset := 8 },{ name := "B",type := 81,offset := 3,embedded := false,tag := "",pkgPath := "",byteOffset := 24 }]),.agg #[.int .i64 0,.int .i64 0,.int .i64 0,.int .i64 0,.int .i64 0],5,40⟩
def ty84 : TyInf := ⟨(TypeDesc.pointer 83),.pointer none,1,8⟩
def ty86 : TyInf := ⟨(TypeDesc.pointer 81),.pointer none,1,8⟩
def ty87 : TyInf := ⟨(TypeDesc.func #[84] #[] false),.nilFunc,1,8⟩
def ty90 : TyInf := ⟨(TypeDesc.struct #[{ name := "Key",type := 3,offset := 0,embedded := false,tag := "",pkgPath := "",byteOffset := 0 },{ name := "Op",type := 3,offset := 1,embedded := false,tag := "",pkgPath := "",byteOffset := 8 },{ name := "A",type := 81,offset := 2,embedded := false,tag := "",pkgPath := "",byteOffset := 16 },{ name := "B",type := 81,offset := 4,embedded := false,tag := "",pkgPath := "",byteOffset := 32 }]),.agg #[.int .i64 0,.int .i64 0,.int .i64 0,.int .i64 0,.int .i64 0,.int .i64 0],6,48⟩
def ty91 : TyInf := ⟨(TypeDesc.pointer 90),.pointer none,1,8⟩
def ty92 : TyInf := ⟨(TypeDesc.func #[91] #[] false),.nilFunc,1,8⟩
def ty93 : TyInf := ⟨(TypeDesc.func #[76] #[] false),.nilFunc,1,8⟩
def ty96 : TyInf := ⟨(TypeDesc.struct #[]),.agg #[],0,0⟩
def ty101 : TyInf := ⟨(TypeDesc.slice 4),.slice none 0 0,1,24⟩
def ty104 : TyInf := ⟨(TypeDesc.struct #[{ name := "e",type := 22,offset := 0,embedded := false,tag := "",pkgPath := "marchpast/desk",byteOffset := 0 }]),.agg #[.int .i64 0],1,8⟩
def ty107 : TyInf := ⟨(TypeDesc.slice 9),.slice none 0 0,1,24⟩
def ty111 : TyInf := ⟨(TypeDesc.pointer 38),.pointer none,1,8⟩
def ty112 : TyInf := ⟨(TypeDesc.slice 163),.slice none 0 0,1,24⟩
def ty122 : TyInf := ⟨(TypeDesc.pointer 5),.pointer none,1,8⟩
def ty123 : TyInf := ⟨(TypeDesc.pointer 125),.pointer none,1,8⟩
def ty125 : TyInf := ⟨(TypeDesc.struct #[{ name := "S",type := 9,offset := 0,embedded := false,tag := "",pkgPath := "",byteOffset := 0 }]),.agg #[.string ByteArray.empty],1,16⟩
def ty133 : TyInf := ⟨(TypeDesc.func #[3] #[4] false),.nilFunc,1,8⟩
def ty135 : TyInf := ⟨(TypeDesc.struct #[{ name := "Kind",type := 3,offset := 0,embedded := false,tag := "",pkgPath := "",byteOffset := 0 },{ name := "Txn",type := 3,offset := 1,embedded := false,tag := "",pkgPath := "",byteOffset := 8 },{ name := "Shard",type := 3,offset := 2,embedded := false,tag := "",pkgPath := "",byteOffset := 16 }]),.agg #[.int .i64 0,.int .i64 0,.int .i64 0],3,24⟩
def ty139 : TyInf := ⟨(TypeDesc.slice 135),.slice none 0 0,1,24⟩
def ty143 : TyInf := ⟨(TypeDesc.pointer 145),.pointer none,1,8⟩
def ty145 : TyInf := ⟨(TypeDesc.struct #[{ name := "b",type := 44,offset := 0,embedded := false,tag := "",pkgPath := "marchpast/wire",byteOffset := 0 }]),.agg #[.slice none 0 0],1,24⟩
def ty150 : TyInf := ⟨(TypeDesc.slice 70),.slice none 0 0,1,24⟩
def ty152 : TyInf := ⟨(TypeDesc.slice 86),.slice none 0 0,1,24⟩
def ty156 : TyInf := ⟨(TypeDesc.array 3 9),.agg #[.string ByteArray.empty,.string ByteArray.empty,.string ByteArray.empty],3,48⟩
def ty163 : TyInf := ⟨(TypeDesc.struct #[{ name := "Done",type := 4,offset := 0,embedded := false,tag := "",pkgPath := "",byteOffset := 0 },{ name := "Vals",type := 34,offset := 1,embedded := false,tag := "",pkgPath := "",byteOffset := 8 }]),.agg #[.bool false,.slice none 0 0],2,32⟩
def ty170 : TyInf := ⟨(TypeDesc.int IntKind.u64),.int .u64 0,1,8⟩
def ty180 : TyInf := ⟨(TypeDesc.slice 81),.slice none 0 0,1,24⟩
def ty184 : TyInf := ⟨(TypeDesc.pointer 29),.pointer none,1,8⟩
def ty185 : TyInf := ⟨(TypeDesc.slice 190),.slice none 0 0,1,24⟩
def ty187 : TyInf := ⟨(TypeDesc.struct #[{ name := "Plan",type := 184,offset := 0,embedded := true,tag := "",pkgPath := "",byteOffset := 0 },{ name := "State",type := 38,offset := 1,embedded := true,tag := "",pkgPath := "",byteOffset := 8 },{ name := "seats",type := 185,offset := 5,embedded := false,tag := "",pkgPath := "marchpast/steps",byteOffset := 104 }]),.agg #[.pointer none,.slice none 0 0,.slice none 0 0,.slice none 0 0,.slice none 0 0,.slice none 0 0],6,128⟩
def ty188 : TyInf := ⟨(TypeDesc.pointer 187),.pointer none,1,8⟩
def ty190 : TyInf := ⟨(TypeDesc.slice 193),.slice none 0 0,1,24⟩
def ty193 : TyInf := ⟨(TypeDesc.struct #[{ name := "part",type := 4,offset := 0,embedded := false,tag := "",pkgPath := "marchpast/steps",byteOffset := 0 },{ name := "active",type := 4,offset := 1,embedded := false,tag := "",pkgPath := "marchpast/steps",byteOffset := 1 },{ name := "read",type := 4,offset := 2,embedded := false,tag := "",pkgPath := "marchpast/steps",byteOffset := 2 },{ name := "wrote",type := 4,offset := 3,embedded := false,tag := "",pkgPath := "marchpast/steps",byteOffset := 3 }]),.agg #[.bool false,.bool false,.bool false,.bool false],4,4⟩
def ty194 : TyInf := ⟨(TypeDesc.func #[193] #[4] false),.nilFunc,1,8⟩
def ty213 : TyInf := ⟨(TypeDesc.struct #[{ name := "e",type := 22,offset := 0,embedded := false,tag := "",pkgPath := "marchpast/txn",byteOffset := 0 }]),.agg #[.int .i64 0],1,8⟩
def ty220 : TyInf := ⟨(TypeDesc.int IntKind.u32),.int .u32 0,1,4⟩
def ty223 : TyInf := ⟨(TypeDesc.array 24 5),.agg #[.int .u8 0,.int .u8 0,.int .u8 0,.int .u8 0,.int .u8 0,.int .u8 0,.int .u8 0,.int .u8 0,.int .u8 0,.int .u8 0,.int .u8 0,.int .u8 0,.int .u8 0,.int .u8 0,.int .u8 0,.int .u8 0,.int .u8 0,.int .u8 0,.int .u8 0,.int .u8 0,.int .u8 0,.int .u8 0,.int .u8 0,.int .u8 0],24,24⟩
def ty224 : TyInf := ⟨(TypeDesc.int IntKind.u64),.int .u64 0,1,8⟩
def ty232 : TyInf := ⟨(TypeDesc.func #[204] #[] false),.nilFunc,1,8⟩
def ty234 : TyInf := ⟨(TypeDesc.array 2 3),.agg #[.int .i64 0,.int .i64 0],2,16⟩
def ty235 : TyInf := ⟨(TypeDesc.func #[3,3] #[3] false),.nilFunc,1,8⟩
def ty237 : TyInf := ⟨(TypeDesc.map 3 235),.map none,1,8⟩
def ty241 : TyInf := ⟨(TypeDesc.int IntKind.i64),.int .i64 0,1,8⟩
def ty244 : TyInf := ⟨(TypeDesc.pointer 258),.pointer none,1,8⟩
def ty248 : TyInf := ⟨(TypeDesc.slice 22),.slice none 0 0,1,24⟩
def ty251 : TyInf := ⟨(TypeDesc.array 20 224),.agg #[.int .u64 0,.int .u64 0,.int .u64 0,.int .u64 0,.int .u64 0,.int .u64 0,.int .u64 0,.int .u64 0,.int .u64 0,.int .u64 0,.int .u64 0,.int .u64 0,.int .u64 0,.int .u64 0,.int .u64 0,.int .u64 0,.int .u64 0,.int .u64 0,.int .u64 0,.int .u64 0],20,160⟩
def ty256 : TyInf := ⟨(TypeDesc.func #[9,3,3] #[224,51] false),.nilFunc,1,8⟩
def ty258 : TyInf := ⟨(TypeDesc.struct #[{ name := "Func",type := 9,offset := 0,embedded := false,tag := "",pkgPath := "",byteOffset := 0 },{ name := "Num",type := 9,offset := 1,embedded := false,tag := "",pkgPath := "",byteOffset := 16 },{ name := "Err",type := 51,offset := 2,embedded := false,tag := "",pkgPath := "",byteOffset := 32 }]),.agg #[.string ByteArray.empty,.string ByteArray.empty,.nilIface],3,48⟩
def ty264 : TyInf := ⟨(TypeDesc.struct #[{ name := "lo",type := 5,offset := 0,embedded := false,tag := "",pkgPath := "unicode/utf8",byteOffset := 0 },{ name := "hi",type := 5,offset := 1,embedded := false,tag := "",pkgPath := "unicode/utf8",byteOffset := 1 }]),.agg #[.int .u8 0,.int .u8 0],2,2⟩
def ty265 : TyInf := ⟨(TypeDesc.array 16 264),.agg #[.int .u8 0,.int .u8 0,.int .u8 0,.int .u8 0,.int .u8 0,.int .u8 0,.int .u8 0,.int .u8 0,.int .u8 0,.int .u8 0,.int .u8 0,.int .u8 0,.int .u8 0,.int .u8 0,.int .u8 0,.int .u8 0,.int .u8 0,.int .u8 0,.int .u8 0,.int .u8 0,.int .u8 0,.int .u8 0,.int .u8 0,.int .u8 0,.int .u8 0,.int .u8 0,.int .u8 0,.int .u8 0,.int .u8 0,.int .u8 0,.int .u8 0,.int .u8 0],32,32⟩
def ty267 : TyInf := ⟨(TypeDesc.pointer 269),.pointer none,1,8⟩
def ty269 : TyInf := ⟨(TypeDesc.struct #[{ name := "s",type := 9,offset := 0,embedded := false,tag := "",pkgPath := "errors",byteOffset := 0 }]),.agg #[.string ByteArray.empty],1,16⟩
def ty272 : TyInf := ⟨(TypeDesc.array 32 5),.agg #[.int .u8 0,.int .u8 0,.int .u8 0,.int .u8 0,.int .u8 0,.int .u8 0,.int .u8 0,.int .u8 0,.int .u8 0,.int .u8 0,.int .u8 0,.int .u8 0,.int .u8 0,.int .u8 0,.int .u8 0,.int .u8 0,.int .u8 0,.int .u8 0,.int .u8 0,.int .u8 0,.int .u8 0,.int .u8 0,.int .u8 0,.int .u8 0,.int .u8 0,.int .u8 0,.int .u8 0,.int .u8 0,.int .u8 0,.int .u8 0,.int .u8 0,.int .u8 0],32,32⟩
def ttl : List (Nat × TyInf) := [(1,ty1),(2,ty2),(3,ty3),(4,ty4),(5,ty5),(6,ty6),(9,ty9),(16,ty16),(20,ty20),(21,ty21),(22,ty22),(24,ty24),(27,ty27),(29,ty29),(32,ty32),(33,ty33),(34,ty34),(35,ty35),(36,ty36),(38,ty38),(40,ty40),(43,ty43),(44,ty44),(46,ty46),(51,ty51),(59,ty59),(62,ty62),(64,ty64),(65,ty65),(66,ty66),(68,ty68),(70,ty70),(72,ty72),(73,ty73),(75,ty75),(76,ty76),(78,ty78),(81,ty81),(83,ty83),(84,ty84),(86,ty86),(87,ty87),(90,ty90),(91,ty91),(92,ty92),(93,ty93),(96,ty96),(101,ty101),(104,ty104),(107,ty107),(111,ty111),(112,ty112),(122,ty122),(123,ty123),(125,ty125),(133,ty133),(135,ty135),(139,ty139),(143,ty143),(145,ty145),(150,ty150),(152,ty152),(156,ty156),(163,ty163),(170,ty170),(180,ty180),(184,ty184),(185,ty185),(187,ty187),(188,ty188),(190,ty190),(193,ty193),(194,ty194),(213,ty213),(220,ty220),(223,ty223),(224,ty224),(232,ty232),(234,ty234),(235,ty235),(237,ty237),(241,ty241),(244,ty244),(248,ty248),(251,ty251),(256,ty256),(258,ty258),(264,ty264),(265,ty265),(267,ty267),(269,ty269),(272,ty272)]
def ttAt : List (Nat × TyInf) → Nat → Option TyInf
 | [],_ => none
 | (i,d) :: l,t => match Nat.beq i t with
  | true => some d
  | false => ttAt l t
inductive Ttl (P : Program) : List (Nat × TyInf) → Prop
 | nil : Ttl P []
 | cons {t : Nat} {d : TyInf} {l : List (Nat × TyInf)} (h : TyIs P t d) (k : Ttl P l) : Ttl P ((t,d) :: l)
theorem Ttl.ok {P : Program} {l : List (Nat × TyInf)} (h : Ttl P l) : ∀ t d,ttAt l t = some d → TyIs P t d := by
 induction h with
 | nil => intro t d e;cases e
 | @cons i d0 l h k ih =>
  intro t d e
  simp only [ttAt] at e
  cases hb : Nat.beq i t with
  | true => rw [hb] at e;injection e with e;subst e;rw [← Nat.eq_of_beq_eq_true hb];exact h
  | false => rw [hb] at e;exact ih t d e
theorem ttl_ok : Ttl Tryz.prog ttl :=
 .cons ⟨Tryz.underlying1,info_parts (by kernel_rfl)⟩ <|
 .cons ⟨Tryz.underlying2,info_parts (by kernel_rfl)⟩ <|
 .cons ⟨Tryz.underlying3,info_parts (by kernel_rfl)⟩ <|
 .cons ⟨Tryz.underlying4,info_parts (by kernel_rfl)⟩ <|
 .cons ⟨Tryz.underlying5,info_parts (by kernel_rfl)⟩ <|
 .cons ⟨Tryz.underlying6,info_parts (by kernel_rfl)⟩ <|
 .cons ⟨Tryz.underlying9,info_parts (by kernel_rfl)⟩ <|
 .cons ⟨Tryz.underlying16,info_parts (by kernel_rfl)⟩ <|
 .cons ⟨Tryz.underlying20,info_parts (by kernel_rfl)⟩ <|
 .cons ⟨Tryz.underlying21,info_parts (by kernel_rfl)⟩ <|
 .cons ⟨Tryz.underlying22,info_parts (by kernel_rfl)⟩ <|
 .cons ⟨Tryz.underlying24,info_parts (by kernel_rfl)⟩ <|
 .cons ⟨Tryz.underlying27,info_parts (by kernel_rfl)⟩ <|
 .cons ⟨Tryz.underlying29,info_parts (by kernel_rfl)⟩ <|
 .cons ⟨Tryz.underlying32,info_parts (by kernel_rfl)⟩ <|
 .cons ⟨Tryz.underlying33,info_parts (by kernel_rfl)⟩ <|
 .cons ⟨Tryz.underlying34,info_parts (by kernel_rfl)⟩ <|
 .cons ⟨Tryz.underlying35,info_parts (by kernel_rfl)⟩ <|
 .cons ⟨Tryz.underlying36,info_parts (by kernel_rfl)⟩ <|
 .cons ⟨Tryz.underlying38,info_parts (by kernel_rfl)⟩ <|
 .cons ⟨Tryz.underlying40,info_parts (by kernel_rfl)⟩ <|
 .cons ⟨Tryz.underlying43,info_parts (by kernel_rfl)⟩ <|
 .cons ⟨Tryz.underlying44,info_parts (by kernel_rfl)⟩ <|
 .cons ⟨Tryz.underlying46,info_parts (by kernel_rfl)⟩ <|
 .cons ⟨Tryz.underlying51,info_parts (by kernel_rfl)⟩ <|
 .cons ⟨Tryz.underlying59,info_parts (by kernel_rfl)⟩ <|
 .cons ⟨Tryz.underlying62,info_parts (by kernel_rfl)⟩ <|
 .cons ⟨Tryz.underlying64,info_parts (by kernel_rfl)⟩ <|
 .cons ⟨Tryz.underlying65,info_parts (by kernel_rfl)⟩ <|
 .cons ⟨Tryz.underlying66,info_parts (by kernel_rfl)⟩ <|
 .cons ⟨Tryz.underlying68,info_parts (by kernel_rfl)⟩ <|
 .cons ⟨Tryz.underlying70,info_parts (by kernel_rfl)⟩ <|
 .cons ⟨Tryz.underlying72,info_parts (by kernel_rfl)⟩ <|
 .cons ⟨Tryz.underlying73,info_parts (by kernel_rfl)⟩ <|
 .cons ⟨Tryz.underlying75,info_parts (by kernel_rfl)⟩ <|
 .cons ⟨Tryz.underlying76,info_parts (by kernel_rfl)⟩ <|
 .cons ⟨Tryz.underlying78,info_parts (by kernel_rfl)⟩ <|
 .cons ⟨Tryz.underlying81,info_parts (by kernel_rfl)⟩ <|
 .cons ⟨Tryz.underlying83,info_parts (by kernel_rfl)⟩ <|
 .cons ⟨Tryz.underlying84,info_parts (by kernel_rfl)⟩ <|
 .cons ⟨Tryz.underlying86,info_parts (by kernel_rfl)⟩ <|
 .cons ⟨Tryz.underlying87,info_parts (by kernel_rfl)⟩ <|
 .cons ⟨Tryz.underlying90,info_parts (by kernel_rfl)⟩ <|
 .cons ⟨Tryz.underlying91,info_parts (by kernel_rfl)⟩ <|
 .cons ⟨Tryz.underlying92,info_parts (by kernel_rfl)⟩ <|
 .cons ⟨Tryz.underlying93,info_parts (by kernel_rfl)⟩ <|
 .cons ⟨Tryz.underlying96,info_parts (by kernel_rfl)⟩ <|
 .cons ⟨Tryz.underlying101,info_parts (by kernel_rfl)⟩ <|
 .cons ⟨Tryz.underlying104,info_parts (by kernel_rfl)⟩ <|
 .cons ⟨Tryz.underlying107,info_parts (by kernel_rfl)⟩ <|
 .cons ⟨Tryz.underlying111,info_parts (by kernel_rfl)⟩ <|
 .cons ⟨Tryz.underlying112,info_parts (by kernel_rfl)⟩ <|
 .cons ⟨Tryz.underlying122,info_parts (by kernel_rfl)⟩ <|
 .cons ⟨Tryz.underlying123,info_parts (by kernel_rfl)⟩ <|
 .cons ⟨Tryz.underlying125,info_parts (by kernel_rfl)⟩ <|
 .cons ⟨Tryz.underlying133,info_parts (by kernel_rfl)⟩ <|
 .cons ⟨Tryz.underlying135,info_parts (by kernel_rfl)⟩ <|
 .cons ⟨Tryz.underlying139,info_parts (by kernel_rfl)⟩ <|
 .cons ⟨Tryz.underlying143,info_parts (by kernel_rfl)⟩ <|
 .cons ⟨Tryz.underlying145,info_parts (by kernel_rfl)⟩ <|
 .cons ⟨Tryz.underlying150,info_parts (by kernel_rfl)⟩ <|
 .cons ⟨Tryz.underlying152,info_parts (by kernel_rfl)⟩ <|
 .cons ⟨Tryz.underlying156,info_parts (by kernel_rfl)⟩ <|
 .cons ⟨Tryz.underlying163,info_parts (by kernel_rfl)⟩ <|
 .cons ⟨Tryz.underlying170,info_parts (by kernel_rfl)⟩ <|
 .cons ⟨Tryz.underlying180,info_parts (by kernel_rfl)⟩ <|
 .cons ⟨Tryz.underlying184,info_parts (by kernel_rfl)⟩ <|
 .cons ⟨Tryz.underlying185,info_parts (by kernel_rfl)⟩ <|
 .cons ⟨Tryz.underlying187,info_parts (by kernel_rfl)⟩ <|
 .cons ⟨Tryz.underlying188,info_parts (by kernel_rfl)⟩ <|
 .cons ⟨Tryz.underlying190,info_parts (by kernel_rfl)⟩ <|
 .cons ⟨Tryz.underlying193,info_parts (by kernel_rfl)⟩ <|
 .cons ⟨Tryz.underlying194,info_parts (by kernel_rfl)⟩ <|
 .cons ⟨Tryz.underlying213,info_parts (by kernel_rfl)⟩ <|
 .cons ⟨Tryz.underlying220,info_parts (by kernel_rfl)⟩ <|
 .cons ⟨Tryz.underlying223,info_parts (by kernel_rfl)⟩ <|
 .cons ⟨Tryz.underlying224,info_parts (by kernel_rfl)⟩ <|
 .cons ⟨Tryz.underlying232,info_parts (by kernel_rfl)⟩ <|
 .cons ⟨Tryz.underlying234,info_parts (by kernel_rfl)⟩ <|
 .cons ⟨Tryz.underlying235,info_parts (by kernel_rfl)⟩ <|
 .cons ⟨Tryz.underlying237,info_parts (by kernel_rfl)⟩ <|
 .cons ⟨Tryz.underlying241,info_parts (by kernel_rfl)⟩ <|
 .cons ⟨Tryz.underlying244,info_parts (by kernel_rfl)⟩ <|
 .cons ⟨Tryz.underlying248,info_parts (by kernel_rfl)⟩ <|
 .cons ⟨Tryz.underlying251,info_parts (by kernel_rfl)⟩ <|
 .cons ⟨Tryz.underlying256,info_parts (by kernel_rfl)⟩ <|
 .cons ⟨Tryz.underlying258,info_parts (by kernel_rfl)⟩ <|
 .cons ⟨Tryz.underlying264,info_parts (by kernel_rfl)⟩ <|
 .cons ⟨Tryz.underlying265,info_parts (by kernel_rfl)⟩ <|
 .cons ⟨Tryz.underlying267,info_parts (by kernel_rfl)⟩ <|
 .cons ⟨Tryz.underlying269,info_parts (by kernel_rfl)⟩ <|
 .cons ⟨Tryz.underlying272,info_parts (by kernel_rfl)⟩ <|
  .nil
theorem mixd : Tryz.prog.follows .mixedOrders = true := by kernel_rfl
noncomputable abbrev CC : Cfg := Cfg.mk Tryz.prog (ttAt ttl) ttl_ok.ok mixd
end Go.Proofs.YtjgmbgfcffnanaaGreatDoor
