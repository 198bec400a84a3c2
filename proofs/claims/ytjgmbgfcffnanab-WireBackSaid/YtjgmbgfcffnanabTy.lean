/- The table of the types that the proofs name: each row is a closed fact of the program. -/
import Derived.Test.YtjgmbgfcffnanabProg
import Derived.Test.YtjgmbgfcffnanabLA
namespace Go.Proofs.Ytjgmbgfcffnanab
open Go.RowKit

def ty1 : TyInf := ⟨(TypeDesc.func #[] #[] false), .nilFunc, 1, 8⟩
theorem ty1_is : TyIs Try.prog 1 ty1 := ⟨Try.underlying1, info_parts (by kernel_rfl)⟩
def ty2 : TyInf := ⟨(TypeDesc.int IntKind.i64), .int .i64 0, 1, 8⟩
theorem ty2_is : TyIs Try.prog 2 ty2 := ⟨Try.underlying2, info_parts (by kernel_rfl)⟩
def ty3 : TyInf := ⟨(TypeDesc.int IntKind.i64), .int .i64 0, 1, 8⟩
theorem ty3_is : TyIs Try.prog 3 ty3 := ⟨Try.underlying3, info_parts (by kernel_rfl)⟩
def ty4 : TyInf := ⟨TypeDesc.bool, .bool false, 1, 1⟩
theorem ty4_is : TyIs Try.prog 4 ty4 := ⟨Try.underlying4, info_parts (by kernel_rfl)⟩
def ty5 : TyInf := ⟨(TypeDesc.int IntKind.u8), .int .u8 0, 1, 1⟩
theorem ty5_is : TyIs Try.prog 5 ty5 := ⟨Try.underlying5, info_parts (by kernel_rfl)⟩
def ty6 : TyInf := ⟨(TypeDesc.int IntKind.u8), .int .u8 0, 1, 1⟩
theorem ty6_is : TyIs Try.prog 6 ty6 := ⟨Try.underlying6, info_parts (by kernel_rfl)⟩
def ty9 : TyInf := ⟨TypeDesc.string, .string ByteArray.empty, 1, 16⟩
theorem ty9_is : TyIs Try.prog 9 ty9 := ⟨Try.underlying9, info_parts (by kernel_rfl)⟩
def ty10 : TyInf := ⟨TypeDesc.string, .string ByteArray.empty, 1, 16⟩
theorem ty10_is : TyIs Try.prog 10 ty10 := ⟨Try.underlying10, info_parts (by kernel_rfl)⟩
def ty11 : TyInf := ⟨TypeDesc.string, .string ByteArray.empty, 1, 16⟩
theorem ty11_is : TyIs Try.prog 11 ty11 := ⟨Try.underlying11, info_parts (by kernel_rfl)⟩
def ty12 : TyInf := ⟨(TypeDesc.int IntKind.u64), .int .u64 0, 1, 8⟩
theorem ty12_is : TyIs Try.prog 12 ty12 := ⟨Try.underlying12, info_parts (by kernel_rfl)⟩
def ty15 : TyInf := ⟨(TypeDesc.pointer 209), .pointer none, 1, 8⟩
theorem ty15_is : TyIs Try.prog 15 ty15 := ⟨Try.underlying15, info_parts (by kernel_rfl)⟩
def ty16 : TyInf := ⟨(TypeDesc.pointer 212), .pointer none, 1, 8⟩
theorem ty16_is : TyIs Try.prog 16 ty16 := ⟨Try.underlying16, info_parts (by kernel_rfl)⟩
def ty17 : TyInf := ⟨(TypeDesc.pointer 221), .pointer none, 1, 8⟩
theorem ty17_is : TyIs Try.prog 17 ty17 := ⟨Try.underlying17, info_parts (by kernel_rfl)⟩
def ty20 : TyInf := ⟨(TypeDesc.interface #[]), .nilIface, 1, 16⟩
theorem ty20_is : TyIs Try.prog 20 ty20 := ⟨Try.underlying20, info_parts (by kernel_rfl)⟩
def ty21 : TyInf := ⟨(TypeDesc.int IntKind.i32), .int .i32 0, 1, 4⟩
theorem ty21_is : TyIs Try.prog 21 ty21 := ⟨Try.underlying21, info_parts (by kernel_rfl)⟩
def ty22 : TyInf := ⟨(TypeDesc.slice 50), .slice none 0 0, 1, 24⟩
theorem ty22_is : TyIs Try.prog 22 ty22 := ⟨Try.underlying22, info_parts (by kernel_rfl)⟩
def ty23 : TyInf := ⟨(TypeDesc.struct #[{ name := "Shards", type := 3, offset := 0, embedded := false, tag := "", pkgPath := "", byteOffset := 0 }, { name := "Txns", type := 22, offset := 1, embedded := false, tag := "", pkgPath := "", byteOffset := 8 }]), .agg #[.int .i64 0, .slice none 0 0], 2, 32⟩
theorem ty23_is : TyIs Try.prog 23 ty23 := ⟨Try.underlying23, info_parts (by kernel_rfl)⟩
def ty24 : TyInf := ⟨(TypeDesc.struct #[{ name := "Shards", type := 3, offset := 0, embedded := false, tag := "", pkgPath := "", byteOffset := 0 }, { name := "Txns", type := 22, offset := 1, embedded := false, tag := "", pkgPath := "", byteOffset := 8 }]), .agg #[.int .i64 0, .slice none 0 0], 2, 32⟩
theorem ty24_is : TyIs Try.prog 24 ty24 := ⟨Try.underlying24, info_parts (by kernel_rfl)⟩
def ty25 : TyInf := ⟨(TypeDesc.int IntKind.i64), .int .i64 0, 1, 8⟩
theorem ty25_is : TyIs Try.prog 25 ty25 := ⟨Try.underlying25, info_parts (by kernel_rfl)⟩
def ty27 : TyInf := ⟨(TypeDesc.func #[24] #[9, 25] false), .nilFunc, 1, 8⟩
theorem ty27_is : TyIs Try.prog 27 ty27 := ⟨Try.underlying27, info_parts (by kernel_rfl)⟩
def ty28 : TyInf := ⟨(TypeDesc.func #[24] #[25] false), .nilFunc, 1, 8⟩
theorem ty28_is : TyIs Try.prog 28 ty28 := ⟨Try.underlying28, info_parts (by kernel_rfl)⟩
def ty29 : TyInf := ⟨(TypeDesc.func #[24] #[9] false), .nilFunc, 1, 8⟩
theorem ty29_is : TyIs Try.prog 29 ty29 := ⟨Try.underlying29, info_parts (by kernel_rfl)⟩
def ty31 : TyInf := ⟨(TypeDesc.func #[9] #[24, 25] false), .nilFunc, 1, 8⟩
theorem ty31_is : TyIs Try.prog 31 ty31 := ⟨Try.underlying31, info_parts (by kernel_rfl)⟩
def ty32 : TyInf := ⟨(TypeDesc.func #[] #[4] false), .nilFunc, 1, 8⟩
theorem ty32_is : TyIs Try.prog 32 ty32 := ⟨Try.underlying32, info_parts (by kernel_rfl)⟩
def ty34 : TyInf := ⟨(TypeDesc.func #[9] #[24, 4] false), .nilFunc, 1, 8⟩
theorem ty34_is : TyIs Try.prog 34 ty34 := ⟨Try.underlying34, info_parts (by kernel_rfl)⟩
def ty35 : TyInf := ⟨(TypeDesc.func #[22, 22] #[4] false), .nilFunc, 1, 8⟩
theorem ty35_is : TyIs Try.prog 35 ty35 := ⟨Try.underlying35, info_parts (by kernel_rfl)⟩
def ty36 : TyInf := ⟨(TypeDesc.func #[24, 9] #[4] false), .nilFunc, 1, 8⟩
theorem ty36_is : TyIs Try.prog 36 ty36 := ⟨Try.underlying36, info_parts (by kernel_rfl)⟩
def ty37 : TyInf := ⟨(TypeDesc.slice 3), .slice none 0 0, 1, 24⟩
theorem ty37_is : TyIs Try.prog 37 ty37 := ⟨Try.underlying37, info_parts (by kernel_rfl)⟩
def ty38 : TyInf := ⟨(TypeDesc.slice 52), .slice none 0 0, 1, 24⟩
theorem ty38_is : TyIs Try.prog 38 ty38 := ⟨Try.underlying38, info_parts (by kernel_rfl)⟩
def ty40 : TyInf := ⟨(TypeDesc.func #[37, 22, 37, 38] #[3, 25] false), .nilFunc, 1, 8⟩
theorem ty40_is : TyIs Try.prog 40 ty40 := ⟨Try.underlying40, info_parts (by kernel_rfl)⟩
def ty42 : TyInf := ⟨(TypeDesc.func #[37, 22, 3] #[37, 25] false), .nilFunc, 1, 8⟩
theorem ty42_is : TyIs Try.prog 42 ty42 := ⟨Try.underlying42, info_parts (by kernel_rfl)⟩
def ty43 : TyInf := ⟨(TypeDesc.func #[37, 37] #[4] false), .nilFunc, 1, 8⟩
theorem ty43_is : TyIs Try.prog 43 ty43 := ⟨Try.underlying43, info_parts (by kernel_rfl)⟩
def ty44 : TyInf := ⟨(TypeDesc.func #[37, 22, 37, 38, 3] #[4] false), .nilFunc, 1, 8⟩
theorem ty44_is : TyIs Try.prog 44 ty44 := ⟨Try.underlying44, info_parts (by kernel_rfl)⟩
def ty46 : TyInf := ⟨(TypeDesc.func #[37, 22] #[37, 38, 25] false), .nilFunc, 1, 8⟩
theorem ty46_is : TyIs Try.prog 46 ty46 := ⟨Try.underlying46, info_parts (by kernel_rfl)⟩
def ty47 : TyInf := ⟨(TypeDesc.slice 96), .slice none 0 0, 1, 24⟩
theorem ty47_is : TyIs Try.prog 47 ty47 := ⟨Try.underlying47, info_parts (by kernel_rfl)⟩
def ty48 : TyInf := ⟨(TypeDesc.slice 59), .slice none 0 0, 1, 24⟩
theorem ty48_is : TyIs Try.prog 48 ty48 := ⟨Try.underlying48, info_parts (by kernel_rfl)⟩
def ty49 : TyInf := ⟨(TypeDesc.struct #[{ name := "Reads", type := 37, offset := 0, embedded := false, tag := "", pkgPath := "", byteOffset := 0 }, { name := "Guards", type := 47, offset := 1, embedded := false, tag := "", pkgPath := "", byteOffset := 24 }, { name := "Sets", type := 48, offset := 2, embedded := false, tag := "", pkgPath := "", byteOffset := 48 }]), .agg #[.slice none 0 0, .slice none 0 0, .slice none 0 0], 3, 72⟩
theorem ty49_is : TyIs Try.prog 49 ty49 := ⟨Try.underlying49, info_parts (by kernel_rfl)⟩
def ty50 : TyInf := ⟨(TypeDesc.struct #[{ name := "Reads", type := 37, offset := 0, embedded := false, tag := "", pkgPath := "", byteOffset := 0 }, { name := "Guards", type := 47, offset := 1, embedded := false, tag := "", pkgPath := "", byteOffset := 24 }, { name := "Sets", type := 48, offset := 2, embedded := false, tag := "", pkgPath := "", byteOffset := 48 }]), .agg #[.slice none 0 0, .slice none 0 0, .slice none 0 0], 3, 72⟩
theorem ty50_is : TyIs Try.prog 50 ty50 := ⟨Try.underlying50, info_parts (by kernel_rfl)⟩
def ty51 : TyInf := ⟨(TypeDesc.struct #[{ name := "Done", type := 4, offset := 0, embedded := false, tag := "", pkgPath := "", byteOffset := 0 }, { name := "Vals", type := 37, offset := 1, embedded := false, tag := "", pkgPath := "", byteOffset := 8 }]), .agg #[.bool false, .slice none 0 0], 2, 32⟩
theorem ty51_is : TyIs Try.prog 51 ty51 := ⟨Try.underlying51, info_parts (by kernel_rfl)⟩
def ty52 : TyInf := ⟨(TypeDesc.struct #[{ name := "Done", type := 4, offset := 0, embedded := false, tag := "", pkgPath := "", byteOffset := 0 }, { name := "Vals", type := 37, offset := 1, embedded := false, tag := "", pkgPath := "", byteOffset := 8 }]), .agg #[.bool false, .slice none 0 0], 2, 32⟩
theorem ty52_is : TyIs Try.prog 52 ty52 := ⟨Try.underlying52, info_parts (by kernel_rfl)⟩
def ty53 : TyInf := ⟨(TypeDesc.func #[3, 3] #[3] false), .nilFunc, 1, 8⟩
theorem ty53_is : TyIs Try.prog 53 ty53 := ⟨Try.underlying53, info_parts (by kernel_rfl)⟩
def ty55 : TyInf := ⟨(TypeDesc.func #[50, 37] #[52, 37, 25] false), .nilFunc, 1, 8⟩
theorem ty55_is : TyIs Try.prog 55 ty55 := ⟨Try.underlying55, info_parts (by kernel_rfl)⟩
def ty56 : TyInf := ⟨(TypeDesc.struct #[{ name := "Kind", type := 3, offset := 0, embedded := false, tag := "", pkgPath := "", byteOffset := 0 }, { name := "N", type := 3, offset := 1, embedded := false, tag := "", pkgPath := "", byteOffset := 8 }]), .agg #[.int .i64 0, .int .i64 0], 2, 16⟩
theorem ty56_is : TyIs Try.prog 56 ty56 := ⟨Try.underlying56, info_parts (by kernel_rfl)⟩
def ty57 : TyInf := ⟨(TypeDesc.struct #[{ name := "Kind", type := 3, offset := 0, embedded := false, tag := "", pkgPath := "", byteOffset := 0 }, { name := "N", type := 3, offset := 1, embedded := false, tag := "", pkgPath := "", byteOffset := 8 }]), .agg #[.int .i64 0, .int .i64 0], 2, 16⟩
theorem ty57_is : TyIs Try.prog 57 ty57 := ⟨Try.underlying57, info_parts (by kernel_rfl)⟩
def ty58 : TyInf := ⟨(TypeDesc.struct #[{ name := "Key", type := 3, offset := 0, embedded := false, tag := "", pkgPath := "", byteOffset := 0 }, { name := "Op", type := 3, offset := 1, embedded := false, tag := "", pkgPath := "", byteOffset := 8 }, { name := "A", type := 57, offset := 2, embedded := false, tag := "", pkgPath := "", byteOffset := 16 }, { name := "B", type := 57, offset := 4, embedded := false, tag := "", pkgPath := "", byteOffset := 32 }]), .agg #[.int .i64 0, .int .i64 0, .int .i64 0, .int .i64 0, .int .i64 0, .int .i64 0], 6, 48⟩
theorem ty58_is : TyIs Try.prog 58 ty58 := ⟨Try.underlying58, info_parts (by kernel_rfl)⟩
def ty59 : TyInf := ⟨(TypeDesc.struct #[{ name := "Key", type := 3, offset := 0, embedded := false, tag := "", pkgPath := "", byteOffset := 0 }, { name := "Op", type := 3, offset := 1, embedded := false, tag := "", pkgPath := "", byteOffset := 8 }, { name := "A", type := 57, offset := 2, embedded := false, tag := "", pkgPath := "", byteOffset := 16 }, { name := "B", type := 57, offset := 4, embedded := false, tag := "", pkgPath := "", byteOffset := 32 }]), .agg #[.int .i64 0, .int .i64 0, .int .i64 0, .int .i64 0, .int .i64 0, .int .i64 0], 6, 48⟩
theorem ty59_is : TyIs Try.prog 59 ty59 := ⟨Try.underlying59, info_parts (by kernel_rfl)⟩
def ty60 : TyInf := ⟨(TypeDesc.func #[37, 22, 3, 3] #[4] false), .nilFunc, 1, 8⟩
theorem ty60_is : TyIs Try.prog 60 ty60 := ⟨Try.underlying60, info_parts (by kernel_rfl)⟩
def ty61 : TyInf := ⟨(TypeDesc.slice 145), .slice none 0 0, 1, 24⟩
theorem ty61_is : TyIs Try.prog 61 ty61 := ⟨Try.underlying61, info_parts (by kernel_rfl)⟩
def ty62 : TyInf := ⟨(TypeDesc.slice 37), .slice none 0 0, 1, 24⟩
theorem ty62_is : TyIs Try.prog 62 ty62 := ⟨Try.underlying62, info_parts (by kernel_rfl)⟩
def ty63 : TyInf := ⟨(TypeDesc.struct #[{ name := "Store", type := 37, offset := 0, embedded := false, tag := "", pkgPath := "", byteOffset := 0 }, { name := "Read", type := 61, offset := 1, embedded := false, tag := "", pkgPath := "", byteOffset := 24 }, { name := "Wrote", type := 61, offset := 2, embedded := false, tag := "", pkgPath := "", byteOffset := 48 }, { name := "Vals", type := 62, offset := 3, embedded := false, tag := "", pkgPath := "", byteOffset := 72 }]), .agg #[.slice none 0 0, .slice none 0 0, .slice none 0 0, .slice none 0 0], 4, 96⟩
theorem ty63_is : TyIs Try.prog 63 ty63 := ⟨Try.underlying63, info_parts (by kernel_rfl)⟩
def ty64 : TyInf := ⟨(TypeDesc.struct #[{ name := "Store", type := 37, offset := 0, embedded := false, tag := "", pkgPath := "", byteOffset := 0 }, { name := "Read", type := 61, offset := 1, embedded := false, tag := "", pkgPath := "", byteOffset := 24 }, { name := "Wrote", type := 61, offset := 2, embedded := false, tag := "", pkgPath := "", byteOffset := 48 }, { name := "Vals", type := 62, offset := 3, embedded := false, tag := "", pkgPath := "", byteOffset := 72 }]), .agg #[.slice none 0 0, .slice none 0 0, .slice none 0 0, .slice none 0 0], 4, 96⟩
theorem ty64_is : TyIs Try.prog 64 ty64 := ⟨Try.underlying64, info_parts (by kernel_rfl)⟩
def ty66 : TyInf := ⟨(TypeDesc.func #[24, 37, 37] #[64, 3, 25] false), .nilFunc, 1, 8⟩
theorem ty66_is : TyIs Try.prog 66 ty66 := ⟨Try.underlying66, info_parts (by kernel_rfl)⟩
def ty67 : TyInf := ⟨(TypeDesc.func #[64, 64] #[4] false), .nilFunc, 1, 8⟩
theorem ty67_is : TyIs Try.prog 67 ty67 := ⟨Try.underlying67, info_parts (by kernel_rfl)⟩
def ty68 : TyInf := ⟨(TypeDesc.func #[24, 37, 37] #[4] false), .nilFunc, 1, 8⟩
theorem ty68_is : TyIs Try.prog 68 ty68 := ⟨Try.underlying68, info_parts (by kernel_rfl)⟩
def ty70 : TyInf := ⟨(TypeDesc.func #[24, 64] #[38, 25] false), .nilFunc, 1, 8⟩
theorem ty70_is : TyIs Try.prog 70 ty70 := ⟨Try.underlying70, info_parts (by kernel_rfl)⟩
def ty71 : TyInf := ⟨(TypeDesc.func #[38, 38] #[4] false), .nilFunc, 1, 8⟩
theorem ty71_is : TyIs Try.prog 71 ty71 := ⟨Try.underlying71, info_parts (by kernel_rfl)⟩
def ty72 : TyInf := ⟨(TypeDesc.func #[24, 64] #[4] false), .nilFunc, 1, 8⟩
theorem ty72_is : TyIs Try.prog 72 ty72 := ⟨Try.underlying72, info_parts (by kernel_rfl)⟩
def ty73 : TyInf := ⟨(TypeDesc.func #[24, 37, 37, 3] #[4] false), .nilFunc, 1, 8⟩
theorem ty73_is : TyIs Try.prog 73 ty73 := ⟨Try.underlying73, info_parts (by kernel_rfl)⟩
def ty75 : TyInf := ⟨(TypeDesc.func #[24, 37] #[64, 25] false), .nilFunc, 1, 8⟩
theorem ty75_is : TyIs Try.prog 75 ty75 := ⟨Try.underlying75, info_parts (by kernel_rfl)⟩
def ty77 : TyInf := ⟨(TypeDesc.func #[24, 64] #[4, 25] false), .nilFunc, 1, 8⟩
theorem ty77_is : TyIs Try.prog 77 ty77 := ⟨Try.underlying77, info_parts (by kernel_rfl)⟩
def ty78 : TyInf := ⟨(TypeDesc.func #[37] #[4] false), .nilFunc, 1, 8⟩
theorem ty78_is : TyIs Try.prog 78 ty78 := ⟨Try.underlying78, info_parts (by kernel_rfl)⟩
def ty79 : TyInf := ⟨(TypeDesc.func #[24, 37] #[64] false), .nilFunc, 1, 8⟩
theorem ty79_is : TyIs Try.prog 79 ty79 := ⟨Try.underlying79, info_parts (by kernel_rfl)⟩
def ty80 : TyInf := ⟨(TypeDesc.func #[24, 64] #[25] false), .nilFunc, 1, 8⟩
theorem ty80_is : TyIs Try.prog 80 ty80 := ⟨Try.underlying80, info_parts (by kernel_rfl)⟩
def ty81 : TyInf := ⟨(TypeDesc.func #[24, 37, 64] #[4] false), .nilFunc, 1, 8⟩
theorem ty81_is : TyIs Try.prog 81 ty81 := ⟨Try.underlying81, info_parts (by kernel_rfl)⟩
def ty82 : TyInf := ⟨(TypeDesc.slice 87), .slice none 0 0, 1, 24⟩
theorem ty82_is : TyIs Try.prog 82 ty82 := ⟨Try.underlying82, info_parts (by kernel_rfl)⟩
def ty84 : TyInf := ⟨(TypeDesc.func #[24, 64] #[82, 25] false), .nilFunc, 1, 8⟩
theorem ty84_is : TyIs Try.prog 84 ty84 := ⟨Try.underlying84, info_parts (by kernel_rfl)⟩
def ty85 : TyInf := ⟨(TypeDesc.func #[24, 64] #[82] false), .nilFunc, 1, 8⟩
theorem ty85_is : TyIs Try.prog 85 ty85 := ⟨Try.underlying85, info_parts (by kernel_rfl)⟩
def ty86 : TyInf := ⟨(TypeDesc.struct #[{ name := "Kind", type := 3, offset := 0, embedded := false, tag := "", pkgPath := "", byteOffset := 0 }, { name := "Txn", type := 3, offset := 1, embedded := false, tag := "", pkgPath := "", byteOffset := 8 }, { name := "Shard", type := 3, offset := 2, embedded := false, tag := "", pkgPath := "", byteOffset := 16 }]), .agg #[.int .i64 0, .int .i64 0, .int .i64 0], 3, 24⟩
theorem ty86_is : TyIs Try.prog 86 ty86 := ⟨Try.underlying86, info_parts (by kernel_rfl)⟩
def ty87 : TyInf := ⟨(TypeDesc.struct #[{ name := "Kind", type := 3, offset := 0, embedded := false, tag := "", pkgPath := "", byteOffset := 0 }, { name := "Txn", type := 3, offset := 1, embedded := false, tag := "", pkgPath := "", byteOffset := 8 }, { name := "Shard", type := 3, offset := 2, embedded := false, tag := "", pkgPath := "", byteOffset := 16 }]), .agg #[.int .i64 0, .int .i64 0, .int .i64 0], 3, 24⟩
theorem ty87_is : TyIs Try.prog 87 ty87 := ⟨Try.underlying87, info_parts (by kernel_rfl)⟩
def ty88 : TyInf := ⟨(TypeDesc.func #[24, 64, 87] #[64, 25] false), .nilFunc, 1, 8⟩
theorem ty88_is : TyIs Try.prog 88 ty88 := ⟨Try.underlying88, info_parts (by kernel_rfl)⟩
def ty89 : TyInf := ⟨(TypeDesc.func #[24, 64, 87] #[4] false), .nilFunc, 1, 8⟩
theorem ty89_is : TyIs Try.prog 89 ty89 := ⟨Try.underlying89, info_parts (by kernel_rfl)⟩
def ty90 : TyInf := ⟨(TypeDesc.pointer 93), .pointer none, 1, 8⟩
theorem ty90_is : TyIs Try.prog 90 ty90 := ⟨Try.underlying90, info_parts (by kernel_rfl)⟩
def ty91 : TyInf := ⟨(TypeDesc.slice 5), .slice none 0 0, 1, 24⟩
theorem ty91_is : TyIs Try.prog 91 ty91 := ⟨Try.underlying91, info_parts (by kernel_rfl)⟩
def ty92 : TyInf := ⟨(TypeDesc.struct #[{ name := "b", type := 91, offset := 0, embedded := false, tag := "", pkgPath := "marchpast/wire", byteOffset := 0 }]), .agg #[.slice none 0 0], 1, 24⟩
theorem ty92_is : TyIs Try.prog 92 ty92 := ⟨Try.underlying92, info_parts (by kernel_rfl)⟩
def ty93 : TyInf := ⟨(TypeDesc.struct #[{ name := "b", type := 91, offset := 0, embedded := false, tag := "", pkgPath := "marchpast/wire", byteOffset := 0 }]), .agg #[.slice none 0 0], 1, 24⟩
theorem ty93_is : TyIs Try.prog 93 ty93 := ⟨Try.underlying93, info_parts (by kernel_rfl)⟩
def ty94 : TyInf := ⟨(TypeDesc.func #[37] #[] true), .nilFunc, 1, 8⟩
theorem ty94_is : TyIs Try.prog 94 ty94 := ⟨Try.underlying94, info_parts (by kernel_rfl)⟩
def ty95 : TyInf := ⟨(TypeDesc.struct #[{ name := "Kind", type := 3, offset := 0, embedded := false, tag := "", pkgPath := "", byteOffset := 0 }, { name := "A", type := 57, offset := 1, embedded := false, tag := "", pkgPath := "", byteOffset := 8 }, { name := "B", type := 57, offset := 3, embedded := false, tag := "", pkgPath := "", byteOffset := 24 }]), .agg #[.int .i64 0, .int .i64 0, .int .i64 0, .int .i64 0, .int .i64 0], 5, 40⟩
theorem ty95_is : TyIs Try.prog 95 ty95 := ⟨Try.underlying95, info_parts (by kernel_rfl)⟩
def ty96 : TyInf := ⟨(TypeDesc.struct #[{ name := "Kind", type := 3, offset := 0, embedded := false, tag := "", pkgPath := "", byteOffset := 0 }, { name := "A", type := 57, offset := 1, embedded := false, tag := "", pkgPath := "", byteOffset := 8 }, { name := "B", type := 57, offset := 3, embedded := false, tag := "", pkgPath := "", byteOffset := 24 }]), .agg #[.int .i64 0, .int .i64 0, .int .i64 0, .int .i64 0, .int .i64 0], 5, 40⟩
theorem ty96_is : TyIs Try.prog 96 ty96 := ⟨Try.underlying96, info_parts (by kernel_rfl)⟩
def ty97 : TyInf := ⟨(TypeDesc.func #[161] #[] true), .nilFunc, 1, 8⟩
theorem ty97_is : TyIs Try.prog 97 ty97 := ⟨Try.underlying97, info_parts (by kernel_rfl)⟩
def ty98 : TyInf := ⟨(TypeDesc.func #[3, 3, 3] #[4] false), .nilFunc, 1, 8⟩
theorem ty98_is : TyIs Try.prog 98 ty98 := ⟨Try.underlying98, info_parts (by kernel_rfl)⟩
def ty99 : TyInf := ⟨(TypeDesc.func #[22] #[25] false), .nilFunc, 1, 8⟩
theorem ty99_is : TyIs Try.prog 99 ty99 := ⟨Try.underlying99, info_parts (by kernel_rfl)⟩
def ty100 : TyInf := ⟨(TypeDesc.func #[57] #[91] false), .nilFunc, 1, 8⟩
theorem ty100_is : TyIs Try.prog 100 ty100 := ⟨Try.underlying100, info_parts (by kernel_rfl)⟩
def ty101 : TyInf := ⟨(TypeDesc.pointer 103), .pointer none, 1, 8⟩
theorem ty101_is : TyIs Try.prog 101 ty101 := ⟨Try.underlying101, info_parts (by kernel_rfl)⟩
def ty102 : TyInf := ⟨(TypeDesc.struct #[{ name := "s", type := 9, offset := 0, embedded := false, tag := "", pkgPath := "marchpast/wire", byteOffset := 0 }]), .agg #[.string ByteArray.empty], 1, 16⟩
theorem ty102_is : TyIs Try.prog 102 ty102 := ⟨Try.underlying102, info_parts (by kernel_rfl)⟩
def ty103 : TyInf := ⟨(TypeDesc.struct #[{ name := "s", type := 9, offset := 0, embedded := false, tag := "", pkgPath := "marchpast/wire", byteOffset := 0 }]), .agg #[.string ByteArray.empty], 1, 16⟩
theorem ty103_is : TyIs Try.prog 103 ty103 := ⟨Try.underlying103, info_parts (by kernel_rfl)⟩
def ty104 : TyInf := ⟨(TypeDesc.func #[163] #[] true), .nilFunc, 1, 8⟩
theorem ty104_is : TyIs Try.prog 104 ty104 := ⟨Try.underlying104, info_parts (by kernel_rfl)⟩
def ty105 : TyInf := ⟨(TypeDesc.pointer 3), .pointer none, 1, 8⟩
theorem ty105_is : TyIs Try.prog 105 ty105 := ⟨Try.underlying105, info_parts (by kernel_rfl)⟩
def ty106 : TyInf := ⟨(TypeDesc.func #[101, 118] #[22] false), .nilFunc, 1, 8⟩
theorem ty106_is : TyIs Try.prog 106 ty106 := ⟨Try.underlying106, info_parts (by kernel_rfl)⟩
def ty107 : TyInf := ⟨(TypeDesc.pointer 50), .pointer none, 1, 8⟩
theorem ty107_is : TyIs Try.prog 107 ty107 := ⟨Try.underlying107, info_parts (by kernel_rfl)⟩
def ty108 : TyInf := ⟨(TypeDesc.func #[101, 109] #[37] false), .nilFunc, 1, 8⟩
theorem ty108_is : TyIs Try.prog 108 ty108 := ⟨Try.underlying108, info_parts (by kernel_rfl)⟩
def ty109 : TyInf := ⟨(TypeDesc.func #[105] #[] false), .nilFunc, 1, 8⟩
theorem ty109_is : TyIs Try.prog 109 ty109 := ⟨Try.underlying109, info_parts (by kernel_rfl)⟩
def ty110 : TyInf := ⟨(TypeDesc.func #[101, 114] #[47] false), .nilFunc, 1, 8⟩
theorem ty110_is : TyIs Try.prog 110 ty110 := ⟨Try.underlying110, info_parts (by kernel_rfl)⟩
def ty111 : TyInf := ⟨(TypeDesc.pointer 96), .pointer none, 1, 8⟩
theorem ty111_is : TyIs Try.prog 111 ty111 := ⟨Try.underlying111, info_parts (by kernel_rfl)⟩
def ty112 : TyInf := ⟨(TypeDesc.func #[165] #[] true), .nilFunc, 1, 8⟩
theorem ty112_is : TyIs Try.prog 112 ty112 := ⟨Try.underlying112, info_parts (by kernel_rfl)⟩
def ty113 : TyInf := ⟨(TypeDesc.pointer 57), .pointer none, 1, 8⟩
theorem ty113_is : TyIs Try.prog 113 ty113 := ⟨Try.underlying113, info_parts (by kernel_rfl)⟩
def ty114 : TyInf := ⟨(TypeDesc.func #[111] #[] false), .nilFunc, 1, 8⟩
theorem ty114_is : TyIs Try.prog 114 ty114 := ⟨Try.underlying114, info_parts (by kernel_rfl)⟩
def ty115 : TyInf := ⟨(TypeDesc.func #[101, 117] #[48] false), .nilFunc, 1, 8⟩
theorem ty115_is : TyIs Try.prog 115 ty115 := ⟨Try.underlying115, info_parts (by kernel_rfl)⟩
def ty116 : TyInf := ⟨(TypeDesc.pointer 59), .pointer none, 1, 8⟩
theorem ty116_is : TyIs Try.prog 116 ty116 := ⟨Try.underlying116, info_parts (by kernel_rfl)⟩
def ty117 : TyInf := ⟨(TypeDesc.func #[116] #[] false), .nilFunc, 1, 8⟩
theorem ty117_is : TyIs Try.prog 117 ty117 := ⟨Try.underlying117, info_parts (by kernel_rfl)⟩
def ty118 : TyInf := ⟨(TypeDesc.func #[107] #[] false), .nilFunc, 1, 8⟩
theorem ty118_is : TyIs Try.prog 118 ty118 := ⟨Try.underlying118, info_parts (by kernel_rfl)⟩
def ty119 : TyInf := ⟨(TypeDesc.struct #[]), .agg #[], 0, 0⟩
theorem ty119_is : TyIs Try.prog 119 ty119 := ⟨Try.underlying119, info_parts (by kernel_rfl)⟩
def ty120 : TyInf := ⟨(TypeDesc.struct #[]), .agg #[], 0, 0⟩
theorem ty120_is : TyIs Try.prog 120 ty120 := ⟨Try.underlying120, info_parts (by kernel_rfl)⟩
def ty121 : TyInf := ⟨(TypeDesc.func #[] #[24] false), .nilFunc, 1, 8⟩
theorem ty121_is : TyIs Try.prog 121 ty121 := ⟨Try.underlying121, info_parts (by kernel_rfl)⟩
def ty122 : TyInf := ⟨(TypeDesc.pointer 124), .pointer none, 1, 8⟩
theorem ty122_is : TyIs Try.prog 122 ty122 := ⟨Try.underlying122, info_parts (by kernel_rfl)⟩
def ty123 : TyInf := ⟨(TypeDesc.struct #[{ name := "S", type := 9, offset := 0, embedded := false, tag := "", pkgPath := "", byteOffset := 0 }]), .agg #[.string ByteArray.empty], 1, 16⟩
theorem ty123_is : TyIs Try.prog 123 ty123 := ⟨Try.underlying123, info_parts (by kernel_rfl)⟩
def ty124 : TyInf := ⟨(TypeDesc.struct #[{ name := "S", type := 9, offset := 0, embedded := false, tag := "", pkgPath := "", byteOffset := 0 }]), .agg #[.string ByteArray.empty], 1, 16⟩
theorem ty124_is : TyIs Try.prog 124 ty124 := ⟨Try.underlying124, info_parts (by kernel_rfl)⟩
def ty125 : TyInf := ⟨(TypeDesc.func #[] #[3] false), .nilFunc, 1, 8⟩
theorem ty125_is : TyIs Try.prog 125 ty125 := ⟨Try.underlying125, info_parts (by kernel_rfl)⟩
def ty126 : TyInf := ⟨(TypeDesc.func #[] #[57] false), .nilFunc, 1, 8⟩
theorem ty126_is : TyIs Try.prog 126 ty126 := ⟨Try.underlying126, info_parts (by kernel_rfl)⟩
def ty127 : TyInf := ⟨(TypeDesc.func #[37] #[25] false), .nilFunc, 1, 8⟩
theorem ty127_is : TyIs Try.prog 127 ty127 := ⟨Try.underlying127, info_parts (by kernel_rfl)⟩
def ty128 : TyInf := ⟨(TypeDesc.map 3 3), .map none, 1, 8⟩
theorem ty128_is : TyIs Try.prog 128 ty128 := ⟨Try.underlying128, info_parts (by kernel_rfl)⟩
def ty129 : TyInf := ⟨(TypeDesc.func #[50] #[37] false), .nilFunc, 1, 8⟩
theorem ty129_is : TyIs Try.prog 129 ty129 := ⟨Try.underlying129, info_parts (by kernel_rfl)⟩
def ty130 : TyInf := ⟨(TypeDesc.func #[50, 3] #[4] false), .nilFunc, 1, 8⟩
theorem ty130_is : TyIs Try.prog 130 ty130 := ⟨Try.underlying130, info_parts (by kernel_rfl)⟩
def ty131 : TyInf := ⟨(TypeDesc.func #[3] #[50] false), .nilFunc, 1, 8⟩
theorem ty131_is : TyIs Try.prog 131 ty131 := ⟨Try.underlying131, info_parts (by kernel_rfl)⟩
def ty132 : TyInf := ⟨(TypeDesc.func #[] #[50] false), .nilFunc, 1, 8⟩
theorem ty132_is : TyIs Try.prog 132 ty132 := ⟨Try.underlying132, info_parts (by kernel_rfl)⟩
def ty133 : TyInf := ⟨(TypeDesc.func #[] #[37] false), .nilFunc, 1, 8⟩
theorem ty133_is : TyIs Try.prog 133 ty133 := ⟨Try.underlying133, info_parts (by kernel_rfl)⟩
def ty134 : TyInf := ⟨(TypeDesc.func #[37] #[37] false), .nilFunc, 1, 8⟩
theorem ty134_is : TyIs Try.prog 134 ty134 := ⟨Try.underlying134, info_parts (by kernel_rfl)⟩
def ty135 : TyInf := ⟨(TypeDesc.func #[37, 50] #[52] false), .nilFunc, 1, 8⟩
theorem ty135_is : TyIs Try.prog 135 ty135 := ⟨Try.underlying135, info_parts (by kernel_rfl)⟩
def ty136 : TyInf := ⟨(TypeDesc.func #[50] #[25] false), .nilFunc, 1, 8⟩
theorem ty136_is : TyIs Try.prog 136 ty136 := ⟨Try.underlying136, info_parts (by kernel_rfl)⟩
def ty138 : TyInf := ⟨(TypeDesc.func #[50, 37] #[52, 37] false), .nilFunc, 1, 8⟩
theorem ty138_is : TyIs Try.prog 138 ty138 := ⟨Try.underlying138, info_parts (by kernel_rfl)⟩
def ty139 : TyInf := ⟨(TypeDesc.func #[24, 140, 37] #[3] true), .nilFunc, 1, 8⟩
theorem ty139_is : TyIs Try.prog 139 ty139 := ⟨Try.underlying139, info_parts (by kernel_rfl)⟩
def ty140 : TyInf := ⟨(TypeDesc.pointer 64), .pointer none, 1, 8⟩
theorem ty140_is : TyIs Try.prog 140 ty140 := ⟨Try.underlying140, info_parts (by kernel_rfl)⟩
def ty141 : TyInf := ⟨(TypeDesc.func #[24, 64, 87] #[64] false), .nilFunc, 1, 8⟩
theorem ty141_is : TyIs Try.prog 141 ty141 := ⟨Try.underlying141, info_parts (by kernel_rfl)⟩
def ty143 : TyInf := ⟨(TypeDesc.func #[24, 64] #[64, 3] false), .nilFunc, 1, 8⟩
theorem ty143_is : TyIs Try.prog 143 ty143 := ⟨Try.underlying143, info_parts (by kernel_rfl)⟩
def ty144 : TyInf := ⟨(TypeDesc.func #[145, 145] #[4] false), .nilFunc, 1, 8⟩
theorem ty144_is : TyIs Try.prog 144 ty144 := ⟨Try.underlying144, info_parts (by kernel_rfl)⟩
def ty145 : TyInf := ⟨(TypeDesc.slice 4), .slice none 0 0, 1, 24⟩
theorem ty145_is : TyIs Try.prog 145 ty145 := ⟨Try.underlying145, info_parts (by kernel_rfl)⟩
def ty146 : TyInf := ⟨(TypeDesc.func #[24, 3] #[145] false), .nilFunc, 1, 8⟩
theorem ty146_is : TyIs Try.prog 146 ty146 := ⟨Try.underlying146, info_parts (by kernel_rfl)⟩
def ty147 : TyInf := ⟨(TypeDesc.func #[24, 64, 3] #[4] false), .nilFunc, 1, 8⟩
theorem ty147_is : TyIs Try.prog 147 ty147 := ⟨Try.underlying147, info_parts (by kernel_rfl)⟩
def ty148 : TyInf := ⟨(TypeDesc.pointer 157), .pointer none, 1, 8⟩
theorem ty148_is : TyIs Try.prog 148 ty148 := ⟨Try.underlying148, info_parts (by kernel_rfl)⟩
def ty149 : TyInf := ⟨(TypeDesc.func #[150, 64] #[148] false), .nilFunc, 1, 8⟩
theorem ty149_is : TyIs Try.prog 149 ty149 := ⟨Try.underlying149, info_parts (by kernel_rfl)⟩
def ty150 : TyInf := ⟨(TypeDesc.pointer 24), .pointer none, 1, 8⟩
theorem ty150_is : TyIs Try.prog 150 ty150 := ⟨Try.underlying150, info_parts (by kernel_rfl)⟩
def ty151 : TyInf := ⟨(TypeDesc.func #[24, 64, 3, 3] #[4] false), .nilFunc, 1, 8⟩
theorem ty151_is : TyIs Try.prog 151 ty151 := ⟨Try.underlying151, info_parts (by kernel_rfl)⟩
def ty152 : TyInf := ⟨(TypeDesc.struct #[{ name := "part", type := 4, offset := 0, embedded := false, tag := "", pkgPath := "marchpast/steps", byteOffset := 0 }, { name := "active", type := 4, offset := 1, embedded := false, tag := "", pkgPath := "marchpast/steps", byteOffset := 1 }, { name := "read", type := 4, offset := 2, embedded := false, tag := "", pkgPath := "marchpast/steps", byteOffset := 2 }, { name := "wrote", type := 4, offset := 3, embedded := false, tag := "", pkgPath := "marchpast/steps", byteOffset := 3 }]), .agg #[.bool false, .bool false, .bool false, .bool false], 4, 4⟩
theorem ty152_is : TyIs Try.prog 152 ty152 := ⟨Try.underlying152, info_parts (by kernel_rfl)⟩
def ty153 : TyInf := ⟨(TypeDesc.struct #[{ name := "part", type := 4, offset := 0, embedded := false, tag := "", pkgPath := "marchpast/steps", byteOffset := 0 }, { name := "active", type := 4, offset := 1, embedded := false, tag := "", pkgPath := "marchpast/steps", byteOffset := 1 }, { name := "read", type := 4, offset := 2, embedded := false, tag := "", pkgPath := "marchpast/steps", byteOffset := 2 }, { name := "wrote", type := 4, offset := 3, embedded := false, tag := "", pkgPath := "marchpast/steps", byteOffset := 3 }]), .agg #[.bool false, .bool false, .bool false, .bool false], 4, 4⟩
theorem ty153_is : TyIs Try.prog 153 ty153 := ⟨Try.underlying153, info_parts (by kernel_rfl)⟩
def ty154 : TyInf := ⟨(TypeDesc.slice 153), .slice none 0 0, 1, 24⟩
theorem ty154_is : TyIs Try.prog 154 ty154 := ⟨Try.underlying154, info_parts (by kernel_rfl)⟩
def ty155 : TyInf := ⟨(TypeDesc.slice 154), .slice none 0 0, 1, 24⟩
theorem ty155_is : TyIs Try.prog 155 ty155 := ⟨Try.underlying155, info_parts (by kernel_rfl)⟩
def ty156 : TyInf := ⟨(TypeDesc.struct #[{ name := "Plan", type := 150, offset := 0, embedded := true, tag := "", pkgPath := "", byteOffset := 0 }, { name := "State", type := 64, offset := 1, embedded := true, tag := "", pkgPath := "", byteOffset := 8 }, { name := "seats", type := 155, offset := 5, embedded := false, tag := "", pkgPath := "marchpast/steps", byteOffset := 104 }]), .agg #[.pointer none, .slice none 0 0, .slice none 0 0, .slice none 0 0, .slice none 0 0, .slice none 0 0], 6, 128⟩
theorem ty156_is : TyIs Try.prog 156 ty156 := ⟨Try.underlying156, info_parts (by kernel_rfl)⟩
def ty157 : TyInf := ⟨(TypeDesc.struct #[{ name := "Plan", type := 150, offset := 0, embedded := true, tag := "", pkgPath := "", byteOffset := 0 }, { name := "State", type := 64, offset := 1, embedded := true, tag := "", pkgPath := "", byteOffset := 8 }, { name := "seats", type := 155, offset := 5, embedded := false, tag := "", pkgPath := "marchpast/steps", byteOffset := 104 }]), .agg #[.pointer none, .slice none 0 0, .slice none 0 0, .slice none 0 0, .slice none 0 0, .slice none 0 0], 6, 128⟩
theorem ty157_is : TyIs Try.prog 157 ty157 := ⟨Try.underlying157, info_parts (by kernel_rfl)⟩
def ty158 : TyInf := ⟨(TypeDesc.func #[87] #[4] false), .nilFunc, 1, 8⟩
theorem ty158_is : TyIs Try.prog 158 ty158 := ⟨Try.underlying158, info_parts (by kernel_rfl)⟩
def ty159 : TyInf := ⟨(TypeDesc.func #[64] #[64] false), .nilFunc, 1, 8⟩
theorem ty159_is : TyIs Try.prog 159 ty159 := ⟨Try.underlying159, info_parts (by kernel_rfl)⟩
def ty160 : TyInf := ⟨(TypeDesc.func #[24, 140, 87] #[] false), .nilFunc, 1, 8⟩
theorem ty160_is : TyIs Try.prog 160 ty160 := ⟨Try.underlying160, info_parts (by kernel_rfl)⟩
def ty161 : TyInf := ⟨(TypeDesc.slice 57), .slice none 0 0, 1, 24⟩
theorem ty161_is : TyIs Try.prog 161 ty161 := ⟨Try.underlying161, info_parts (by kernel_rfl)⟩
def ty162 : TyInf := ⟨(TypeDesc.func #[3] #[91] false), .nilFunc, 1, 8⟩
theorem ty162_is : TyIs Try.prog 162 ty162 := ⟨Try.underlying162, info_parts (by kernel_rfl)⟩
def ty163 : TyInf := ⟨(TypeDesc.slice 105), .slice none 0 0, 1, 24⟩
theorem ty163_is : TyIs Try.prog 163 ty163 := ⟨Try.underlying163, info_parts (by kernel_rfl)⟩
def ty164 : TyInf := ⟨(TypeDesc.func #[3] #[3] false), .nilFunc, 1, 8⟩
theorem ty164_is : TyIs Try.prog 164 ty164 := ⟨Try.underlying164, info_parts (by kernel_rfl)⟩
def ty165 : TyInf := ⟨(TypeDesc.slice 113), .slice none 0 0, 1, 24⟩
theorem ty165_is : TyIs Try.prog 165 ty165 := ⟨Try.underlying165, info_parts (by kernel_rfl)⟩
def ty166 : TyInf := ⟨(TypeDesc.int IntKind.u64), .int .u64 0, 1, 8⟩
theorem ty166_is : TyIs Try.prog 166 ty166 := ⟨Try.underlying166, info_parts (by kernel_rfl)⟩
def ty168 : TyInf := ⟨(TypeDesc.func #[37, 50] #[37, 52] false), .nilFunc, 1, 8⟩
theorem ty168_is : TyIs Try.prog 168 ty168 := ⟨Try.underlying168, info_parts (by kernel_rfl)⟩
def ty169 : TyInf := ⟨(TypeDesc.func #[3] #[57] false), .nilFunc, 1, 8⟩
theorem ty169_is : TyIs Try.prog 169 ty169 := ⟨Try.underlying169, info_parts (by kernel_rfl)⟩
def ty170 : TyInf := ⟨(TypeDesc.struct #[{ name := "e", type := 25, offset := 0, embedded := false, tag := "", pkgPath := "marchpast/txn", byteOffset := 0 }]), .agg #[.int .i64 0], 1, 8⟩
theorem ty170_is : TyIs Try.prog 170 ty170 := ⟨Try.underlying170, info_parts (by kernel_rfl)⟩
def ty171 : TyInf := ⟨(TypeDesc.struct #[{ name := "e", type := 25, offset := 0, embedded := false, tag := "", pkgPath := "marchpast/txn", byteOffset := 0 }]), .agg #[.int .i64 0], 1, 8⟩
theorem ty171_is : TyIs Try.prog 171 ty171 := ⟨Try.underlying171, info_parts (by kernel_rfl)⟩
def ty173 : TyInf := ⟨(TypeDesc.func #[192] #[] true), .nilFunc, 1, 8⟩
theorem ty173_is : TyIs Try.prog 173 ty173 := ⟨Try.underlying173, info_parts (by kernel_rfl)⟩
def ty174 : TyInf := ⟨(TypeDesc.func #[4, 25] #[25] false), .nilFunc, 1, 8⟩
theorem ty174_is : TyIs Try.prog 174 ty174 := ⟨Try.underlying174, info_parts (by kernel_rfl)⟩
def ty175 : TyInf := ⟨(TypeDesc.func #[62] #[37] true), .nilFunc, 1, 8⟩
theorem ty175_is : TyIs Try.prog 175 ty175 := ⟨Try.underlying175, info_parts (by kernel_rfl)⟩
def ty176 : TyInf := ⟨(TypeDesc.func #[3, 3, 3] #[4, 25] false), .nilFunc, 1, 8⟩
theorem ty176_is : TyIs Try.prog 176 ty176 := ⟨Try.underlying176, info_parts (by kernel_rfl)⟩
def ty177 : TyInf := ⟨(TypeDesc.func #[57, 3] #[25] false), .nilFunc, 1, 8⟩
theorem ty177_is : TyIs Try.prog 177 ty177 := ⟨Try.underlying177, info_parts (by kernel_rfl)⟩
def ty178 : TyInf := ⟨(TypeDesc.func #[3, 3, 3] #[3, 25] false), .nilFunc, 1, 8⟩
theorem ty178_is : TyIs Try.prog 178 ty178 := ⟨Try.underlying178, info_parts (by kernel_rfl)⟩
def ty179 : TyInf := ⟨(TypeDesc.func #[57, 37] #[3, 25] false), .nilFunc, 1, 8⟩
theorem ty179_is : TyIs Try.prog 179 ty179 := ⟨Try.underlying179, info_parts (by kernel_rfl)⟩
def ty180 : TyInf := ⟨(TypeDesc.func #[57] #[3] false), .nilFunc, 1, 8⟩
theorem ty180_is : TyIs Try.prog 180 ty180 := ⟨Try.underlying180, info_parts (by kernel_rfl)⟩
def ty181 : TyInf := ⟨(TypeDesc.func #[57, 37] #[3] false), .nilFunc, 1, 8⟩
theorem ty181_is : TyIs Try.prog 181 ty181 := ⟨Try.underlying181, info_parts (by kernel_rfl)⟩
def ty182 : TyInf := ⟨(TypeDesc.func #[154, 183] #[4] false), .nilFunc, 1, 8⟩
theorem ty182_is : TyIs Try.prog 182 ty182 := ⟨Try.underlying182, info_parts (by kernel_rfl)⟩
def ty183 : TyInf := ⟨(TypeDesc.func #[153] #[4] false), .nilFunc, 1, 8⟩
theorem ty183_is : TyIs Try.prog 183 ty183 := ⟨Try.underlying183, info_parts (by kernel_rfl)⟩
def ty185 : TyInf := ⟨(TypeDesc.func #[24, 3] #[145, 145] false), .nilFunc, 1, 8⟩
theorem ty185_is : TyIs Try.prog 185 ty185 := ⟨Try.underlying185, info_parts (by kernel_rfl)⟩
def ty186 : TyInf := ⟨(TypeDesc.func #[3] #[4] false), .nilFunc, 1, 8⟩
theorem ty186_is : TyIs Try.prog 186 ty186 := ⟨Try.underlying186, info_parts (by kernel_rfl)⟩
def ty187 : TyInf := ⟨(TypeDesc.func #[199] #[82] false), .nilFunc, 1, 8⟩
theorem ty187_is : TyIs Try.prog 187 ty187 := ⟨Try.underlying187, info_parts (by kernel_rfl)⟩
def ty188 : TyInf := ⟨(TypeDesc.func #[158] #[] false), .nilFunc, 1, 8⟩
theorem ty188_is : TyIs Try.prog 188 ty188 := ⟨Try.underlying188, info_parts (by kernel_rfl)⟩
def ty189 : TyInf := ⟨(TypeDesc.func #[50, 50, 3, 3] #[4] false), .nilFunc, 1, 8⟩
theorem ty189_is : TyIs Try.prog 189 ty189 := ⟨Try.underlying189, info_parts (by kernel_rfl)⟩
def ty190 : TyInf := ⟨(TypeDesc.func #[3, 3] #[4] false), .nilFunc, 1, 8⟩
theorem ty190_is : TyIs Try.prog 190 ty190 := ⟨Try.underlying190, info_parts (by kernel_rfl)⟩
def ty191 : TyInf := ⟨(TypeDesc.func #[145] #[145] false), .nilFunc, 1, 8⟩
theorem ty191_is : TyIs Try.prog 191 ty191 := ⟨Try.underlying191, info_parts (by kernel_rfl)⟩
def ty192 : TyInf := ⟨(TypeDesc.slice 25), .slice none 0 0, 1, 24⟩
theorem ty192_is : TyIs Try.prog 192 ty192 := ⟨Try.underlying192, info_parts (by kernel_rfl)⟩
def ty193 : TyInf := ⟨(TypeDesc.func #[37, 3] #[37] false), .nilFunc, 1, 8⟩
theorem ty193_is : TyIs Try.prog 193 ty193 := ⟨Try.underlying193, info_parts (by kernel_rfl)⟩
def ty195 : TyInf := ⟨(TypeDesc.map 3 53), .map none, 1, 8⟩
theorem ty195_is : TyIs Try.prog 195 ty195 := ⟨Try.underlying195, info_parts (by kernel_rfl)⟩
def ty196 : TyInf := ⟨(TypeDesc.func #[] #[195] false), .nilFunc, 1, 8⟩
theorem ty196_is : TyIs Try.prog 196 ty196 := ⟨Try.underlying196, info_parts (by kernel_rfl)⟩
def ty197 : TyInf := ⟨(TypeDesc.func #[154, 183] #[3] false), .nilFunc, 1, 8⟩
theorem ty197_is : TyIs Try.prog 197 ty197 := ⟨Try.underlying197, info_parts (by kernel_rfl)⟩
def ty198 : TyInf := ⟨(TypeDesc.func #[24, 62] #[145] true), .nilFunc, 1, 8⟩
theorem ty198_is : TyIs Try.prog 198 ty198 := ⟨Try.underlying198, info_parts (by kernel_rfl)⟩
def ty199 : TyInf := ⟨(TypeDesc.func #[158] #[] false), .nilFunc, 1, 8⟩
theorem ty199_is : TyIs Try.prog 199 ty199 := ⟨Try.underlying199, info_parts (by kernel_rfl)⟩
def ty200 : TyInf := ⟨(TypeDesc.func #[82, 199] #[82] false), .nilFunc, 1, 8⟩
theorem ty200_is : TyIs Try.prog 200 ty200 := ⟨Try.underlying200, info_parts (by kernel_rfl)⟩
def ty201 : TyInf := ⟨(TypeDesc.array 2 3), .agg #[.int .i64 0, .int .i64 0], 2, 16⟩
theorem ty201_is : TyIs Try.prog 201 ty201 := ⟨Try.underlying201, info_parts (by kernel_rfl)⟩
def ty202 : TyInf := ⟨(TypeDesc.func #[50, 50, 186] #[4] false), .nilFunc, 1, 8⟩
theorem ty202_is : TyIs Try.prog 202 ty202 := ⟨Try.underlying202, info_parts (by kernel_rfl)⟩
def ty203 : TyInf := ⟨(TypeDesc.func #[37, 186] #[4] false), .nilFunc, 1, 8⟩
theorem ty203_is : TyIs Try.prog 203 ty203 := ⟨Try.underlying203, info_parts (by kernel_rfl)⟩
def ty204 : TyInf := ⟨(TypeDesc.func #[37, 3] #[4] false), .nilFunc, 1, 8⟩
theorem ty204_is : TyIs Try.prog 204 ty204 := ⟨Try.underlying204, info_parts (by kernel_rfl)⟩
def ty205 : TyInf := ⟨(TypeDesc.func #[37, 186] #[3] false), .nilFunc, 1, 8⟩
theorem ty205_is : TyIs Try.prog 205 ty205 := ⟨Try.underlying205, info_parts (by kernel_rfl)⟩
def ty206 : TyInf := ⟨(TypeDesc.func #[37, 3] #[3] false), .nilFunc, 1, 8⟩
theorem ty206_is : TyIs Try.prog 206 ty206 := ⟨Try.underlying206, info_parts (by kernel_rfl)⟩
def ty207 : TyInf := ⟨(TypeDesc.func #[] #[9] false), .nilFunc, 1, 8⟩
theorem ty207_is : TyIs Try.prog 207 ty207 := ⟨Try.underlying207, info_parts (by kernel_rfl)⟩
def ty213 : TyInf := ⟨(TypeDesc.int IntKind.u32), .int .u32 0, 1, 4⟩
theorem ty213_is : TyIs Try.prog 213 ty213 := ⟨Try.underlying213, info_parts (by kernel_rfl)⟩
def ty214 : TyInf := ⟨(TypeDesc.int IntKind.u8), .int .u8 0, 1, 1⟩
theorem ty214_is : TyIs Try.prog 214 ty214 := ⟨Try.underlying214, info_parts (by kernel_rfl)⟩
def ty215 : TyInf := ⟨(TypeDesc.int IntKind.u8), .int .u8 0, 1, 1⟩
theorem ty215_is : TyIs Try.prog 215 ty215 := ⟨Try.underlying215, info_parts (by kernel_rfl)⟩
def ty216 : TyInf := ⟨(TypeDesc.func #[222, 222] #[4] false), .nilFunc, 1, 8⟩
theorem ty216_is : TyIs Try.prog 216 ty216 := ⟨Try.underlying216, info_parts (by kernel_rfl)⟩
def ty217 : TyInf := ⟨(TypeDesc.pointer 5), .pointer none, 1, 8⟩
theorem ty217_is : TyIs Try.prog 217 ty217 := ⟨Try.underlying217, info_parts (by kernel_rfl)⟩
def ty218 : TyInf := ⟨(TypeDesc.int IntKind.i32), .int .i32 0, 1, 4⟩
theorem ty218_is : TyIs Try.prog 218 ty218 := ⟨Try.underlying218, info_parts (by kernel_rfl)⟩
def ty219 : TyInf := ⟨(TypeDesc.int IntKind.i32), .int .i32 0, 1, 4⟩
theorem ty219_is : TyIs Try.prog 219 ty219 := ⟨Try.underlying219, info_parts (by kernel_rfl)⟩
def ty220 : TyInf := ⟨(TypeDesc.struct #[{ name := "Size_", type := 12, offset := 0, embedded := false, tag := "", pkgPath := "", byteOffset := 0 }, { name := "PtrBytes", type := 12, offset := 1, embedded := false, tag := "", pkgPath := "", byteOffset := 8 }, { name := "Hash", type := 213, offset := 2, embedded := false, tag := "", pkgPath := "", byteOffset := 16 }, { name := "TFlag", type := 214, offset := 3, embedded := false, tag := "", pkgPath := "", byteOffset := 20 }, { name := "Align_", type := 5, offset := 4, embedded := false, tag := "", pkgPath := "", byteOffset := 21 }, { name := "FieldAlign_", type := 5, offset := 5, embedded := false, tag := "", pkgPath := "", byteOffset := 22 }, { name := "Kind_", type := 215, offset := 6, embedded := false, tag := "", pkgPath := "", byteOffset := 23 }, { name := "Equal", type := 216, offset := 7, embedded := false, tag := "", pkgPath := "", byteOffset := 24 }, { name := "GCData", type := 217, offset := 8, embedded := false, tag := "", pkgPath := "", byteOffset := 32 }, { name := "Str", type := 218, offset := 9, embedded := false, tag := "", pkgPath := "", byteOffset := 40 }, { name := "PtrToThis", type := 219, offset := 10, embedded := false, tag := "", pkgPath := "", byteOffset := 44 }]), .agg #[.int .u64 0, .int .u64 0, .int .u32 0, .int .u8 0, .int .u8 0, .int .u8 0, .int .u8 0, .nilFunc, .pointer none, .int .i32 0, .int .i32 0], 11, 48⟩
theorem ty220_is : TyIs Try.prog 220 ty220 := ⟨Try.underlying220, info_parts (by kernel_rfl)⟩
def ty221 : TyInf := ⟨(TypeDesc.struct #[{ name := "Size_", type := 12, offset := 0, embedded := false, tag := "", pkgPath := "", byteOffset := 0 }, { name := "PtrBytes", type := 12, offset := 1, embedded := false, tag := "", pkgPath := "", byteOffset := 8 }, { name := "Hash", type := 213, offset := 2, embedded := false, tag := "", pkgPath := "", byteOffset := 16 }, { name := "TFlag", type := 214, offset := 3, embedded := false, tag := "", pkgPath := "", byteOffset := 20 }, { name := "Align_", type := 5, offset := 4, embedded := false, tag := "", pkgPath := "", byteOffset := 21 }, { name := "FieldAlign_", type := 5, offset := 5, embedded := false, tag := "", pkgPath := "", byteOffset := 22 }, { name := "Kind_", type := 215, offset := 6, embedded := false, tag := "", pkgPath := "", byteOffset := 23 }, { name := "Equal", type := 216, offset := 7, embedded := false, tag := "", pkgPath := "", byteOffset := 24 }, { name := "GCData", type := 217, offset := 8, embedded := false, tag := "", pkgPath := "", byteOffset := 32 }, { name := "Str", type := 218, offset := 9, embedded := false, tag := "", pkgPath := "", byteOffset := 40 }, { name := "PtrToThis", type := 219, offset := 10, embedded := false, tag := "", pkgPath := "", byteOffset := 44 }]), .agg #[.int .u64 0, .int .u64 0, .int .u32 0, .int .u8 0, .int .u8 0, .int .u8 0, .int .u8 0, .nilFunc, .pointer none, .int .i32 0, .int .i32 0], 11, 48⟩
theorem ty221_is : TyIs Try.prog 221 ty221 := ⟨Try.underlying221, info_parts (by kernel_rfl)⟩
def ttl : List (Nat × TyInf) := [(1, ty1), (2, ty2), (3, ty3), (4, ty4), (5, ty5), (6, ty6), (9, ty9), (10, ty10), (11, ty11), (12, ty12), (15, ty15), (16, ty16), (17, ty17), (20, ty20), (21, ty21), (22, ty22), (23, ty23), (24, ty24), (25, ty25), (27, ty27), (28, ty28), (29, ty29), (31, ty31), (32, ty32), (34, ty34), (35, ty35), (36, ty36), (37, ty37), (38, ty38), (40, ty40), (42, ty42), (43, ty43), (44, ty44), (46, ty46), (47, ty47), (48, ty48), (49, ty49), (50, ty50), (51, ty51), (52, ty52), (53, ty53), (55, ty55), (56, ty56), (57, ty57), (58, ty58), (59, ty59), (60, ty60), (61, ty61), (62, ty62), (63, ty63), (64, ty64), (66, ty66), (67, ty67), (68, ty68), (70, ty70), (71, ty71), (72, ty72), (73, ty73), (75, ty75), (77, ty77), (78, ty78), (79, ty79), (80, ty80), (81, ty81), (82, ty82), (84, ty84), (85, ty85), (86, ty86), (87, ty87), (88, ty88), (89, ty89), (90, ty90), (91, ty91), (92, ty92), (93, ty93), (94, ty94), (95, ty95), (96, ty96), (97, ty97), (98, ty98), (99, ty99), (100, ty100), (101, ty101), (102, ty102), (103, ty103), (104, ty104), (105, ty105), (106, ty106), (107, ty107), (108, ty108), (109, ty109), (110, ty110), (111, ty111), (112, ty112), (113, ty113), (114, ty114), (115, ty115), (116, ty116), (117, ty117), (118, ty118), (119, ty119), (120, ty120), (121, ty121), (122, ty122), (123, ty123), (124, ty124), (125, ty125), (126, ty126), (127, ty127), (128, ty128), (129, ty129), (130, ty130), (131, ty131), (132, ty132), (133, ty133), (134, ty134), (135, ty135), (136, ty136), (138, ty138), (139, ty139), (140, ty140), (141, ty141), (143, ty143), (144, ty144), (145, ty145), (146, ty146), (147, ty147), (148, ty148), (149, ty149), (150, ty150), (151, ty151), (152, ty152), (153, ty153), (154, ty154), (155, ty155), (156, ty156), (157, ty157), (158, ty158), (159, ty159), (160, ty160), (161, ty161), (162, ty162), (163, ty163), (164, ty164), (165, ty165), (166, ty166), (168, ty168), (169, ty169), (170, ty170), (171, ty171), (173, ty173), (174, ty174), (175, ty175), (176, ty176), (177, ty177), (178, ty178), (179, ty179), (180, ty180), (181, ty181), (182, ty182), (183, ty183), (185, ty185), (186, ty186), (187, ty187), (188, ty188), (189, ty189), (190, ty190), (191, ty191), (192, ty192), (193, ty193), (195, ty195), (196, ty196), (197, ty197), (198, ty198), (199, ty199), (200, ty200), (201, ty201), (202, ty202), (203, ty203), (204, ty204), (205, ty205), (206, ty206), (207, ty207), (213, ty213), (214, ty214), (215, ty215), (216, ty216), (217, ty217), (218, ty218), (219, ty219), (220, ty220), (221, ty221)]
def ttAt : List (Nat × TyInf) → Nat → Option TyInf
  | [], _ => none
  | (i, d) :: l, t => match Nat.beq i t with
    | true => some d
    | false => ttAt l t
inductive Ttl (P : Program) : List (Nat × TyInf) → Prop
  | nil : Ttl P []
  | cons {t : Nat} {d : TyInf} {l : List (Nat × TyInf)} (h : TyIs P t d) (k : Ttl P l) : Ttl P ((t, d) :: l)
theorem Ttl.ok {P : Program} {l : List (Nat × TyInf)} (h : Ttl P l) : ∀ t d, ttAt l t = some d → TyIs P t d := by
  induction h with
  | nil => intro t d e; cases e
  | @cons i d0 l h k ih =>
    intro t d e
    simp only [ttAt] at e
    cases hb : Nat.beq i t with
    | true => rw [hb] at e; injection e with e; subst e; rw [← Nat.eq_of_beq_eq_true hb]; exact h
    | false => rw [hb] at e; exact ih t d e
theorem ttl_ok : Ttl Try.prog ttl :=
  .cons ty1_is <|
  .cons ty2_is <|
  .cons ty3_is <|
  .cons ty4_is <|
  .cons ty5_is <|
  .cons ty6_is <|
  .cons ty9_is <|
  .cons ty10_is <|
  .cons ty11_is <|
  .cons ty12_is <|
  .cons ty15_is <|
  .cons ty16_is <|
  .cons ty17_is <|
  .cons ty20_is <|
  .cons ty21_is <|
  .cons ty22_is <|
  .cons ty23_is <|
  .cons ty24_is <|
  .cons ty25_is <|
  .cons ty27_is <|
  .cons ty28_is <|
  .cons ty29_is <|
  .cons ty31_is <|
  .cons ty32_is <|
  .cons ty34_is <|
  .cons ty35_is <|
  .cons ty36_is <|
  .cons ty37_is <|
  .cons ty38_is <|
  .cons ty40_is <|
  .cons ty42_is <|
  .cons ty43_is <|
  .cons ty44_is <|
  .cons ty46_is <|
  .cons ty47_is <|
  .cons ty48_is <|
  .cons ty49_is <|
  .cons ty50_is <|
  .cons ty51_is <|
  .cons ty52_is <|
  .cons ty53_is <|
  .cons ty55_is <|
  .cons ty56_is <|
  .cons ty57_is <|
  .cons ty58_is <|
  .cons ty59_is <|
  .cons ty60_is <|
  .cons ty61_is <|
  .cons ty62_is <|
  .cons ty63_is <|
  .cons ty64_is <|
  .cons ty66_is <|
  .cons ty67_is <|
  .cons ty68_is <|
  .cons ty70_is <|
  .cons ty71_is <|
  .cons ty72_is <|
  .cons ty73_is <|
  .cons ty75_is <|
  .cons ty77_is <|
  .cons ty78_is <|
  .cons ty79_is <|
  .cons ty80_is <|
  .cons ty81_is <|
  .cons ty82_is <|
  .cons ty84_is <|
  .cons ty85_is <|
  .cons ty86_is <|
  .cons ty87_is <|
  .cons ty88_is <|
  .cons ty89_is <|
  .cons ty90_is <|
  .cons ty91_is <|
  .cons ty92_is <|
  .cons ty93_is <|
  .cons ty94_is <|
  .cons ty95_is <|
  .cons ty96_is <|
  .cons ty97_is <|
  .cons ty98_is <|
  .cons ty99_is <|
  .cons ty100_is <|
  .cons ty101_is <|
  .cons ty102_is <|
  .cons ty103_is <|
  .cons ty104_is <|
  .cons ty105_is <|
  .cons ty106_is <|
  .cons ty107_is <|
  .cons ty108_is <|
  .cons ty109_is <|
  .cons ty110_is <|
  .cons ty111_is <|
  .cons ty112_is <|
  .cons ty113_is <|
  .cons ty114_is <|
  .cons ty115_is <|
  .cons ty116_is <|
  .cons ty117_is <|
  .cons ty118_is <|
  .cons ty119_is <|
  .cons ty120_is <|
  .cons ty121_is <|
  .cons ty122_is <|
  .cons ty123_is <|
  .cons ty124_is <|
  .cons ty125_is <|
  .cons ty126_is <|
  .cons ty127_is <|
  .cons ty128_is <|
  .cons ty129_is <|
  .cons ty130_is <|
  .cons ty131_is <|
  .cons ty132_is <|
  .cons ty133_is <|
  .cons ty134_is <|
  .cons ty135_is <|
  .cons ty136_is <|
  .cons ty138_is <|
  .cons ty139_is <|
  .cons ty140_is <|
  .cons ty141_is <|
  .cons ty143_is <|
  .cons ty144_is <|
  .cons ty145_is <|
  .cons ty146_is <|
  .cons ty147_is <|
  .cons ty148_is <|
  .cons ty149_is <|
  .cons ty150_is <|
  .cons ty151_is <|
  .cons ty152_is <|
  .cons ty153_is <|
  .cons ty154_is <|
  .cons ty155_is <|
  .cons ty156_is <|
  .cons ty157_is <|
  .cons ty158_is <|
  .cons ty159_is <|
  .cons ty160_is <|
  .cons ty161_is <|
  .cons ty162_is <|
  .cons ty163_is <|
  .cons ty164_is <|
  .cons ty165_is <|
  .cons ty166_is <|
  .cons ty168_is <|
  .cons ty169_is <|
  .cons ty170_is <|
  .cons ty171_is <|
  .cons ty173_is <|
  .cons ty174_is <|
  .cons ty175_is <|
  .cons ty176_is <|
  .cons ty177_is <|
  .cons ty178_is <|
  .cons ty179_is <|
  .cons ty180_is <|
  .cons ty181_is <|
  .cons ty182_is <|
  .cons ty183_is <|
  .cons ty185_is <|
  .cons ty186_is <|
  .cons ty187_is <|
  .cons ty188_is <|
  .cons ty189_is <|
  .cons ty190_is <|
  .cons ty191_is <|
  .cons ty192_is <|
  .cons ty193_is <|
  .cons ty195_is <|
  .cons ty196_is <|
  .cons ty197_is <|
  .cons ty198_is <|
  .cons ty199_is <|
  .cons ty200_is <|
  .cons ty201_is <|
  .cons ty202_is <|
  .cons ty203_is <|
  .cons ty204_is <|
  .cons ty205_is <|
  .cons ty206_is <|
  .cons ty207_is <|
  .cons ty213_is <|
  .cons ty214_is <|
  .cons ty215_is <|
  .cons ty216_is <|
  .cons ty217_is <|
  .cons ty218_is <|
  .cons ty219_is <|
  .cons ty220_is <|
  .cons ty221_is <|
  .nil
theorem mixd : Try.prog.follows .mixedOrders = true := by kernel_rfl
end Go.Proofs.Ytjgmbgfcffnanab
