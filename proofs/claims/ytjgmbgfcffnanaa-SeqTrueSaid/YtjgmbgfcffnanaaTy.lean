/- The table of the types that the proofs name: each row is a closed fact of the program. -/
import Derived.Test.YtjgmbgfcffnanaaProg
import Derived.Test.YtjgmbgfcffnanaaLA
namespace Go.Proofs.Ytjgmbgfcffnanaa
open Go.RowKit

def ty1 : TyInf := ⟨(TypeDesc.func #[] #[] false), .nilFunc, 1, 8⟩
theorem ty1_is : TyIs Try.prog 1 ty1 := ⟨Try.underlying1, info_parts (by kernel_rfl)⟩
def ty2 : TyInf := ⟨(TypeDesc.int IntKind.i64), .int .i64 0, 1, 8⟩
theorem ty2_is : TyIs Try.prog 2 ty2 := ⟨Try.underlying2, info_parts (by kernel_rfl)⟩
def ty3 : TyInf := ⟨(TypeDesc.int IntKind.i64), .int .i64 0, 1, 8⟩
theorem ty3_is : TyIs Try.prog 3 ty3 := ⟨Try.underlying3, info_parts (by kernel_rfl)⟩
def ty4 : TyInf := ⟨TypeDesc.bool, .bool false, 1, 1⟩
theorem ty4_is : TyIs Try.prog 4 ty4 := ⟨Try.underlying4, info_parts (by kernel_rfl)⟩
def ty5 : TyInf := ⟨(TypeDesc.int IntKind.u8), .int .u8 0, 1, 1⟩
theorem ty5_is : TyIs Try.prog 5 ty5 := ⟨Try.underlying5, info_parts (by kernel_rfl)⟩
def ty6 : TyInf := ⟨(TypeDesc.int IntKind.u8), .int .u8 0, 1, 1⟩
theorem ty6_is : TyIs Try.prog 6 ty6 := ⟨Try.underlying6, info_parts (by kernel_rfl)⟩
def ty9 : TyInf := ⟨TypeDesc.string, .string ByteArray.empty, 1, 16⟩
theorem ty9_is : TyIs Try.prog 9 ty9 := ⟨Try.underlying9, info_parts (by kernel_rfl)⟩
def ty10 : TyInf := ⟨TypeDesc.string, .string ByteArray.empty, 1, 16⟩
theorem ty10_is : TyIs Try.prog 10 ty10 := ⟨Try.underlying10, info_parts (by kernel_rfl)⟩
def ty11 : TyInf := ⟨TypeDesc.string, .string ByteArray.empty, 1, 16⟩
theorem ty11_is : TyIs Try.prog 11 ty11 := ⟨Try.underlying11, info_parts (by kernel_rfl)⟩
def ty12 : TyInf := ⟨(TypeDesc.int IntKind.u64), .int .u64 0, 1, 8⟩
theorem ty12_is : TyIs Try.prog 12 ty12 := ⟨Try.underlying12, info_parts (by kernel_rfl)⟩
def ty15 : TyInf := ⟨(TypeDesc.pointer 140), .pointer none, 1, 8⟩
theorem ty15_is : TyIs Try.prog 15 ty15 := ⟨Try.underlying15, info_parts (by kernel_rfl)⟩
def ty16 : TyInf := ⟨(TypeDesc.pointer 143), .pointer none, 1, 8⟩
theorem ty16_is : TyIs Try.prog 16 ty16 := ⟨Try.underlying16, info_parts (by kernel_rfl)⟩
def ty17 : TyInf := ⟨(TypeDesc.pointer 153), .pointer none, 1, 8⟩
theorem ty17_is : TyIs Try.prog 17 ty17 := ⟨Try.underlying17, info_parts (by kernel_rfl)⟩
def ty20 : TyInf := ⟨(TypeDesc.interface #[]), .nilIface, 1, 16⟩
theorem ty20_is : TyIs Try.prog 20 ty20 := ⟨Try.underlying20, info_parts (by kernel_rfl)⟩
def ty21 : TyInf := ⟨(TypeDesc.int IntKind.i32), .int .i32 0, 1, 4⟩
theorem ty21_is : TyIs Try.prog 21 ty21 := ⟨Try.underlying21, info_parts (by kernel_rfl)⟩
def ty22 : TyInf := ⟨(TypeDesc.struct #[{ name := "Kind", type := 3, offset := 0, embedded := false, tag := "", pkgPath := "", byteOffset := 0 }, { name := "N", type := 3, offset := 1, embedded := false, tag := "", pkgPath := "", byteOffset := 8 }]), .agg #[.int .i64 0, .int .i64 0], 2, 16⟩
theorem ty22_is : TyIs Try.prog 22 ty22 := ⟨Try.underlying22, info_parts (by kernel_rfl)⟩
def ty23 : TyInf := ⟨(TypeDesc.struct #[{ name := "Kind", type := 3, offset := 0, embedded := false, tag := "", pkgPath := "", byteOffset := 0 }, { name := "N", type := 3, offset := 1, embedded := false, tag := "", pkgPath := "", byteOffset := 8 }]), .agg #[.int .i64 0, .int .i64 0], 2, 16⟩
theorem ty23_is : TyIs Try.prog 23 ty23 := ⟨Try.underlying23, info_parts (by kernel_rfl)⟩
def ty24 : TyInf := ⟨(TypeDesc.slice 3), .slice none 0 0, 1, 24⟩
theorem ty24_is : TyIs Try.prog 24 ty24 := ⟨Try.underlying24, info_parts (by kernel_rfl)⟩
def ty25 : TyInf := ⟨(TypeDesc.int IntKind.i64), .int .i64 0, 1, 8⟩
theorem ty25_is : TyIs Try.prog 25 ty25 := ⟨Try.underlying25, info_parts (by kernel_rfl)⟩
def ty27 : TyInf := ⟨(TypeDesc.func #[23, 24] #[3, 25] false), .nilFunc, 1, 8⟩
theorem ty27_is : TyIs Try.prog 27 ty27 := ⟨Try.underlying27, info_parts (by kernel_rfl)⟩
def ty28 : TyInf := ⟨(TypeDesc.func #[23, 3] #[25] false), .nilFunc, 1, 8⟩
theorem ty28_is : TyIs Try.prog 28 ty28 := ⟨Try.underlying28, info_parts (by kernel_rfl)⟩
def ty29 : TyInf := ⟨(TypeDesc.func #[23, 24] #[3] false), .nilFunc, 1, 8⟩
theorem ty29_is : TyIs Try.prog 29 ty29 := ⟨Try.underlying29, info_parts (by kernel_rfl)⟩
def ty30 : TyInf := ⟨(TypeDesc.func #[] #[4] false), .nilFunc, 1, 8⟩
theorem ty30_is : TyIs Try.prog 30 ty30 := ⟨Try.underlying30, info_parts (by kernel_rfl)⟩
def ty31 : TyInf := ⟨(TypeDesc.func #[23, 3, 24] #[4] false), .nilFunc, 1, 8⟩
theorem ty31_is : TyIs Try.prog 31 ty31 := ⟨Try.underlying31, info_parts (by kernel_rfl)⟩
def ty32 : TyInf := ⟨(TypeDesc.func #[3, 3, 3] #[3, 25] false), .nilFunc, 1, 8⟩
theorem ty32_is : TyIs Try.prog 32 ty32 := ⟨Try.underlying32, info_parts (by kernel_rfl)⟩
def ty34 : TyInf := ⟨(TypeDesc.func #[3, 3, 3] #[4, 25] false), .nilFunc, 1, 8⟩
theorem ty34_is : TyIs Try.prog 34 ty34 := ⟨Try.underlying34, info_parts (by kernel_rfl)⟩
def ty35 : TyInf := ⟨(TypeDesc.func #[3, 3, 3, 3] #[4] false), .nilFunc, 1, 8⟩
theorem ty35_is : TyIs Try.prog 35 ty35 := ⟨Try.underlying35, info_parts (by kernel_rfl)⟩
def ty36 : TyInf := ⟨(TypeDesc.func #[3, 3] #[4] false), .nilFunc, 1, 8⟩
theorem ty36_is : TyIs Try.prog 36 ty36 := ⟨Try.underlying36, info_parts (by kernel_rfl)⟩
def ty37 : TyInf := ⟨(TypeDesc.slice 46), .slice none 0 0, 1, 24⟩
theorem ty37_is : TyIs Try.prog 37 ty37 := ⟨Try.underlying37, info_parts (by kernel_rfl)⟩
def ty38 : TyInf := ⟨(TypeDesc.slice 66), .slice none 0 0, 1, 24⟩
theorem ty38_is : TyIs Try.prog 38 ty38 := ⟨Try.underlying38, info_parts (by kernel_rfl)⟩
def ty40 : TyInf := ⟨(TypeDesc.func #[37] #[38, 25] false), .nilFunc, 1, 8⟩
theorem ty40_is : TyIs Try.prog 40 ty40 := ⟨Try.underlying40, info_parts (by kernel_rfl)⟩
def ty42 : TyInf := ⟨(TypeDesc.func #[37, 3] #[3, 3, 3, 25] false), .nilFunc, 1, 8⟩
theorem ty42_is : TyIs Try.prog 42 ty42 := ⟨Try.underlying42, info_parts (by kernel_rfl)⟩
def ty43 : TyInf := ⟨(TypeDesc.func #[38, 38] #[4] false), .nilFunc, 1, 8⟩
theorem ty43_is : TyIs Try.prog 43 ty43 := ⟨Try.underlying43, info_parts (by kernel_rfl)⟩
def ty44 : TyInf := ⟨(TypeDesc.func #[37, 3] #[4] false), .nilFunc, 1, 8⟩
theorem ty44_is : TyIs Try.prog 44 ty44 := ⟨Try.underlying44, info_parts (by kernel_rfl)⟩
def ty45 : TyInf := ⟨(TypeDesc.func #[3, 3] #[3] false), .nilFunc, 1, 8⟩
theorem ty45_is : TyIs Try.prog 45 ty45 := ⟨Try.underlying45, info_parts (by kernel_rfl)⟩
def ty46 : TyInf := ⟨(TypeDesc.slice 38), .slice none 0 0, 1, 24⟩
theorem ty46_is : TyIs Try.prog 46 ty46 := ⟨Try.underlying46, info_parts (by kernel_rfl)⟩
def ty47 : TyInf := ⟨(TypeDesc.func #[37, 3, 3] #[4] false), .nilFunc, 1, 8⟩
theorem ty47_is : TyIs Try.prog 47 ty47 := ⟨Try.underlying47, info_parts (by kernel_rfl)⟩
def ty48 : TyInf := ⟨(TypeDesc.struct #[{ name := "Shards", type := 3, offset := 0, embedded := false, tag := "", pkgPath := "", byteOffset := 0 }, { name := "Txns", type := 38, offset := 1, embedded := false, tag := "", pkgPath := "", byteOffset := 8 }]), .agg #[.int .i64 0, .slice none 0 0], 2, 32⟩
theorem ty48_is : TyIs Try.prog 48 ty48 := ⟨Try.underlying48, info_parts (by kernel_rfl)⟩
def ty49 : TyInf := ⟨(TypeDesc.struct #[{ name := "Shards", type := 3, offset := 0, embedded := false, tag := "", pkgPath := "", byteOffset := 0 }, { name := "Txns", type := 38, offset := 1, embedded := false, tag := "", pkgPath := "", byteOffset := 8 }]), .agg #[.int .i64 0, .slice none 0 0], 2, 32⟩
theorem ty49_is : TyIs Try.prog 49 ty49 := ⟨Try.underlying49, info_parts (by kernel_rfl)⟩
def ty50 : TyInf := ⟨(TypeDesc.func #[49, 3] #[3, 25] false), .nilFunc, 1, 8⟩
theorem ty50_is : TyIs Try.prog 50 ty50 := ⟨Try.underlying50, info_parts (by kernel_rfl)⟩
def ty51 : TyInf := ⟨(TypeDesc.slice 4), .slice none 0 0, 1, 24⟩
theorem ty51_is : TyIs Try.prog 51 ty51 := ⟨Try.underlying51, info_parts (by kernel_rfl)⟩
def ty53 : TyInf := ⟨(TypeDesc.func #[49, 3] #[51, 25] false), .nilFunc, 1, 8⟩
theorem ty53_is : TyIs Try.prog 53 ty53 := ⟨Try.underlying53, info_parts (by kernel_rfl)⟩
def ty54 : TyInf := ⟨(TypeDesc.func #[49] #[25] false), .nilFunc, 1, 8⟩
theorem ty54_is : TyIs Try.prog 54 ty54 := ⟨Try.underlying54, info_parts (by kernel_rfl)⟩
def ty55 : TyInf := ⟨(TypeDesc.func #[49, 3] #[25] false), .nilFunc, 1, 8⟩
theorem ty55_is : TyIs Try.prog 55 ty55 := ⟨Try.underlying55, info_parts (by kernel_rfl)⟩
def ty56 : TyInf := ⟨(TypeDesc.func #[49, 3] #[51] false), .nilFunc, 1, 8⟩
theorem ty56_is : TyIs Try.prog 56 ty56 := ⟨Try.underlying56, info_parts (by kernel_rfl)⟩
def ty57 : TyInf := ⟨(TypeDesc.func #[51, 51] #[4] false), .nilFunc, 1, 8⟩
theorem ty57_is : TyIs Try.prog 57 ty57 := ⟨Try.underlying57, info_parts (by kernel_rfl)⟩
def ty58 : TyInf := ⟨(TypeDesc.func #[49, 3, 3] #[4] false), .nilFunc, 1, 8⟩
theorem ty58_is : TyIs Try.prog 58 ty58 := ⟨Try.underlying58, info_parts (by kernel_rfl)⟩
def ty59 : TyInf := ⟨(TypeDesc.slice 68), .slice none 0 0, 1, 24⟩
theorem ty59_is : TyIs Try.prog 59 ty59 := ⟨Try.underlying59, info_parts (by kernel_rfl)⟩
def ty61 : TyInf := ⟨(TypeDesc.func #[38] #[59, 25] false), .nilFunc, 1, 8⟩
theorem ty61_is : TyIs Try.prog 61 ty61 := ⟨Try.underlying61, info_parts (by kernel_rfl)⟩
def ty62 : TyInf := ⟨(TypeDesc.func #[66, 66] #[4, 25] false), .nilFunc, 1, 8⟩
theorem ty62_is : TyIs Try.prog 62 ty62 := ⟨Try.underlying62, info_parts (by kernel_rfl)⟩
def ty63 : TyInf := ⟨(TypeDesc.slice 104), .slice none 0 0, 1, 24⟩
theorem ty63_is : TyIs Try.prog 63 ty63 := ⟨Try.underlying63, info_parts (by kernel_rfl)⟩
def ty64 : TyInf := ⟨(TypeDesc.slice 84), .slice none 0 0, 1, 24⟩
theorem ty64_is : TyIs Try.prog 64 ty64 := ⟨Try.underlying64, info_parts (by kernel_rfl)⟩
def ty65 : TyInf := ⟨(TypeDesc.struct #[{ name := "Reads", type := 24, offset := 0, embedded := false, tag := "", pkgPath := "", byteOffset := 0 }, { name := "Guards", type := 63, offset := 1, embedded := false, tag := "", pkgPath := "", byteOffset := 24 }, { name := "Sets", type := 64, offset := 2, embedded := false, tag := "", pkgPath := "", byteOffset := 48 }]), .agg #[.slice none 0 0, .slice none 0 0, .slice none 0 0], 3, 72⟩
theorem ty65_is : TyIs Try.prog 65 ty65 := ⟨Try.underlying65, info_parts (by kernel_rfl)⟩
def ty66 : TyInf := ⟨(TypeDesc.struct #[{ name := "Reads", type := 24, offset := 0, embedded := false, tag := "", pkgPath := "", byteOffset := 0 }, { name := "Guards", type := 63, offset := 1, embedded := false, tag := "", pkgPath := "", byteOffset := 24 }, { name := "Sets", type := 64, offset := 2, embedded := false, tag := "", pkgPath := "", byteOffset := 48 }]), .agg #[.slice none 0 0, .slice none 0 0, .slice none 0 0], 3, 72⟩
theorem ty66_is : TyIs Try.prog 66 ty66 := ⟨Try.underlying66, info_parts (by kernel_rfl)⟩
def ty67 : TyInf := ⟨(TypeDesc.struct #[{ name := "From", type := 3, offset := 0, embedded := false, tag := "", pkgPath := "", byteOffset := 0 }, { name := "To", type := 3, offset := 1, embedded := false, tag := "", pkgPath := "", byteOffset := 8 }]), .agg #[.int .i64 0, .int .i64 0], 2, 16⟩
theorem ty67_is : TyIs Try.prog 67 ty67 := ⟨Try.underlying67, info_parts (by kernel_rfl)⟩
def ty68 : TyInf := ⟨(TypeDesc.struct #[{ name := "From", type := 3, offset := 0, embedded := false, tag := "", pkgPath := "", byteOffset := 0 }, { name := "To", type := 3, offset := 1, embedded := false, tag := "", pkgPath := "", byteOffset := 8 }]), .agg #[.int .i64 0, .int .i64 0], 2, 16⟩
theorem ty68_is : TyIs Try.prog 68 ty68 := ⟨Try.underlying68, info_parts (by kernel_rfl)⟩
def ty69 : TyInf := ⟨(TypeDesc.func #[38, 3, 3] #[4] false), .nilFunc, 1, 8⟩
theorem ty69_is : TyIs Try.prog 69 ty69 := ⟨Try.underlying69, info_parts (by kernel_rfl)⟩
def ty70 : TyInf := ⟨(TypeDesc.struct #[{ name := "Done", type := 4, offset := 0, embedded := false, tag := "", pkgPath := "", byteOffset := 0 }, { name := "Vals", type := 24, offset := 1, embedded := false, tag := "", pkgPath := "", byteOffset := 8 }]), .agg #[.bool false, .slice none 0 0], 2, 32⟩
theorem ty70_is : TyIs Try.prog 70 ty70 := ⟨Try.underlying70, info_parts (by kernel_rfl)⟩
def ty71 : TyInf := ⟨(TypeDesc.struct #[{ name := "Done", type := 4, offset := 0, embedded := false, tag := "", pkgPath := "", byteOffset := 0 }, { name := "Vals", type := 24, offset := 1, embedded := false, tag := "", pkgPath := "", byteOffset := 8 }]), .agg #[.bool false, .slice none 0 0], 2, 32⟩
theorem ty71_is : TyIs Try.prog 71 ty71 := ⟨Try.underlying71, info_parts (by kernel_rfl)⟩
def ty73 : TyInf := ⟨(TypeDesc.func #[24, 66] #[24, 71, 25] false), .nilFunc, 1, 8⟩
theorem ty73_is : TyIs Try.prog 73 ty73 := ⟨Try.underlying73, info_parts (by kernel_rfl)⟩
def ty74 : TyInf := ⟨(TypeDesc.func #[24] #[25] false), .nilFunc, 1, 8⟩
theorem ty74_is : TyIs Try.prog 74 ty74 := ⟨Try.underlying74, info_parts (by kernel_rfl)⟩
def ty75 : TyInf := ⟨(TypeDesc.func #[24] #[4] false), .nilFunc, 1, 8⟩
theorem ty75_is : TyIs Try.prog 75 ty75 := ⟨Try.underlying75, info_parts (by kernel_rfl)⟩
def ty76 : TyInf := ⟨(TypeDesc.func #[24, 24] #[4] false), .nilFunc, 1, 8⟩
theorem ty76_is : TyIs Try.prog 76 ty76 := ⟨Try.underlying76, info_parts (by kernel_rfl)⟩
def ty77 : TyInf := ⟨(TypeDesc.func #[24, 66] #[4] false), .nilFunc, 1, 8⟩
theorem ty77_is : TyIs Try.prog 77 ty77 := ⟨Try.underlying77, info_parts (by kernel_rfl)⟩
def ty78 : TyInf := ⟨(TypeDesc.slice 71), .slice none 0 0, 1, 24⟩
theorem ty78_is : TyIs Try.prog 78 ty78 := ⟨Try.underlying78, info_parts (by kernel_rfl)⟩
def ty80 : TyInf := ⟨(TypeDesc.func #[24, 38] #[24, 78, 25] false), .nilFunc, 1, 8⟩
theorem ty80_is : TyIs Try.prog 80 ty80 := ⟨Try.underlying80, info_parts (by kernel_rfl)⟩
def ty81 : TyInf := ⟨(TypeDesc.func #[78, 78] #[4] false), .nilFunc, 1, 8⟩
theorem ty81_is : TyIs Try.prog 81 ty81 := ⟨Try.underlying81, info_parts (by kernel_rfl)⟩
def ty82 : TyInf := ⟨(TypeDesc.func #[24, 38] #[4] false), .nilFunc, 1, 8⟩
theorem ty82_is : TyIs Try.prog 82 ty82 := ⟨Try.underlying82, info_parts (by kernel_rfl)⟩
def ty83 : TyInf := ⟨(TypeDesc.struct #[{ name := "Key", type := 3, offset := 0, embedded := false, tag := "", pkgPath := "", byteOffset := 0 }, { name := "Op", type := 3, offset := 1, embedded := false, tag := "", pkgPath := "", byteOffset := 8 }, { name := "A", type := 23, offset := 2, embedded := false, tag := "", pkgPath := "", byteOffset := 16 }, { name := "B", type := 23, offset := 4, embedded := false, tag := "", pkgPath := "", byteOffset := 32 }]), .agg #[.int .i64 0, .int .i64 0, .int .i64 0, .int .i64 0, .int .i64 0, .int .i64 0], 6, 48⟩
theorem ty83_is : TyIs Try.prog 83 ty83 := ⟨Try.underlying83, info_parts (by kernel_rfl)⟩
def ty84 : TyInf := ⟨(TypeDesc.struct #[{ name := "Key", type := 3, offset := 0, embedded := false, tag := "", pkgPath := "", byteOffset := 0 }, { name := "Op", type := 3, offset := 1, embedded := false, tag := "", pkgPath := "", byteOffset := 8 }, { name := "A", type := 23, offset := 2, embedded := false, tag := "", pkgPath := "", byteOffset := 16 }, { name := "B", type := 23, offset := 4, embedded := false, tag := "", pkgPath := "", byteOffset := 32 }]), .agg #[.int .i64 0, .int .i64 0, .int .i64 0, .int .i64 0, .int .i64 0, .int .i64 0], 6, 48⟩
theorem ty84_is : TyIs Try.prog 84 ty84 := ⟨Try.underlying84, info_parts (by kernel_rfl)⟩
def ty85 : TyInf := ⟨(TypeDesc.func #[24, 38, 3, 3] #[4] false), .nilFunc, 1, 8⟩
theorem ty85_is : TyIs Try.prog 85 ty85 := ⟨Try.underlying85, info_parts (by kernel_rfl)⟩
def ty86 : TyInf := ⟨(TypeDesc.func #[24, 38, 3] #[4] false), .nilFunc, 1, 8⟩
theorem ty86_is : TyIs Try.prog 86 ty86 := ⟨Try.underlying86, info_parts (by kernel_rfl)⟩
def ty87 : TyInf := ⟨(TypeDesc.func #[3, 3, 3] #[4] false), .nilFunc, 1, 8⟩
theorem ty87_is : TyIs Try.prog 87 ty87 := ⟨Try.underlying87, info_parts (by kernel_rfl)⟩
def ty88 : TyInf := ⟨(TypeDesc.func #[3] #[23] false), .nilFunc, 1, 8⟩
theorem ty88_is : TyIs Try.prog 88 ty88 := ⟨Try.underlying88, info_parts (by kernel_rfl)⟩
def ty90 : TyInf := ⟨(TypeDesc.map 3 45), .map none, 1, 8⟩
theorem ty90_is : TyIs Try.prog 90 ty90 := ⟨Try.underlying90, info_parts (by kernel_rfl)⟩
def ty91 : TyInf := ⟨(TypeDesc.func #[] #[90] false), .nilFunc, 1, 8⟩
theorem ty91_is : TyIs Try.prog 91 ty91 := ⟨Try.underlying91, info_parts (by kernel_rfl)⟩
def ty92 : TyInf := ⟨(TypeDesc.func #[37] #[25] false), .nilFunc, 1, 8⟩
theorem ty92_is : TyIs Try.prog 92 ty92 := ⟨Try.underlying92, info_parts (by kernel_rfl)⟩
def ty93 : TyInf := ⟨(TypeDesc.func #[36] #[] false), .nilFunc, 1, 8⟩
theorem ty93_is : TyIs Try.prog 93 ty93 := ⟨Try.underlying93, info_parts (by kernel_rfl)⟩
def ty94 : TyInf := ⟨(TypeDesc.func #[37] #[93] false), .nilFunc, 1, 8⟩
theorem ty94_is : TyIs Try.prog 94 ty94 := ⟨Try.underlying94, info_parts (by kernel_rfl)⟩
def ty95 : TyInf := ⟨(TypeDesc.slice 99), .slice none 0 0, 1, 24⟩
theorem ty95_is : TyIs Try.prog 95 ty95 := ⟨Try.underlying95, info_parts (by kernel_rfl)⟩
def ty97 : TyInf := ⟨(TypeDesc.func #[37] #[38, 95, 25] false), .nilFunc, 1, 8⟩
theorem ty97_is : TyIs Try.prog 97 ty97 := ⟨Try.underlying97, info_parts (by kernel_rfl)⟩
def ty98 : TyInf := ⟨(TypeDesc.struct #[{ name := "Site", type := 3, offset := 0, embedded := false, tag := "", pkgPath := "", byteOffset := 0 }, { name := "Epoch", type := 3, offset := 1, embedded := false, tag := "", pkgPath := "", byteOffset := 8 }, { name := "At", type := 3, offset := 2, embedded := false, tag := "", pkgPath := "", byteOffset := 16 }]), .agg #[.int .i64 0, .int .i64 0, .int .i64 0], 3, 24⟩
theorem ty98_is : TyIs Try.prog 98 ty98 := ⟨Try.underlying98, info_parts (by kernel_rfl)⟩
def ty99 : TyInf := ⟨(TypeDesc.struct #[{ name := "Site", type := 3, offset := 0, embedded := false, tag := "", pkgPath := "", byteOffset := 0 }, { name := "Epoch", type := 3, offset := 1, embedded := false, tag := "", pkgPath := "", byteOffset := 8 }, { name := "At", type := 3, offset := 2, embedded := false, tag := "", pkgPath := "", byteOffset := 16 }]), .agg #[.int .i64 0, .int .i64 0, .int .i64 0], 3, 24⟩
theorem ty99_is : TyIs Try.prog 99 ty99 := ⟨Try.underlying99, info_parts (by kernel_rfl)⟩
def ty100 : TyInf := ⟨(TypeDesc.func #[] #[37] false), .nilFunc, 1, 8⟩
theorem ty100_is : TyIs Try.prog 100 ty100 := ⟨Try.underlying100, info_parts (by kernel_rfl)⟩
def ty101 : TyInf := ⟨(TypeDesc.func #[3] #[66] false), .nilFunc, 1, 8⟩
theorem ty101_is : TyIs Try.prog 101 ty101 := ⟨Try.underlying101, info_parts (by kernel_rfl)⟩
def ty102 : TyInf := ⟨(TypeDesc.func #[] #[66] false), .nilFunc, 1, 8⟩
theorem ty102_is : TyIs Try.prog 102 ty102 := ⟨Try.underlying102, info_parts (by kernel_rfl)⟩
def ty103 : TyInf := ⟨(TypeDesc.struct #[{ name := "Kind", type := 3, offset := 0, embedded := false, tag := "", pkgPath := "", byteOffset := 0 }, { name := "A", type := 23, offset := 1, embedded := false, tag := "", pkgPath := "", byteOffset := 8 }, { name := "B", type := 23, offset := 3, embedded := false, tag := "", pkgPath := "", byteOffset := 24 }]), .agg #[.int .i64 0, .int .i64 0, .int .i64 0, .int .i64 0, .int .i64 0], 5, 40⟩
theorem ty103_is : TyIs Try.prog 103 ty103 := ⟨Try.underlying103, info_parts (by kernel_rfl)⟩
def ty104 : TyInf := ⟨(TypeDesc.struct #[{ name := "Kind", type := 3, offset := 0, embedded := false, tag := "", pkgPath := "", byteOffset := 0 }, { name := "A", type := 23, offset := 1, embedded := false, tag := "", pkgPath := "", byteOffset := 8 }, { name := "B", type := 23, offset := 3, embedded := false, tag := "", pkgPath := "", byteOffset := 24 }]), .agg #[.int .i64 0, .int .i64 0, .int .i64 0, .int .i64 0, .int .i64 0], 5, 40⟩
theorem ty104_is : TyIs Try.prog 104 ty104 := ⟨Try.underlying104, info_parts (by kernel_rfl)⟩
def ty106 : TyInf := ⟨(TypeDesc.func #[49, 3] #[51, 51] false), .nilFunc, 1, 8⟩
theorem ty106_is : TyIs Try.prog 106 ty106 := ⟨Try.underlying106, info_parts (by kernel_rfl)⟩
def ty107 : TyInf := ⟨(TypeDesc.func #[38] #[25] false), .nilFunc, 1, 8⟩
theorem ty107_is : TyIs Try.prog 107 ty107 := ⟨Try.underlying107, info_parts (by kernel_rfl)⟩
def ty108 : TyInf := ⟨(TypeDesc.func #[66, 3] #[4] false), .nilFunc, 1, 8⟩
theorem ty108_is : TyIs Try.prog 108 ty108 := ⟨Try.underlying108, info_parts (by kernel_rfl)⟩
def ty109 : TyInf := ⟨(TypeDesc.func #[] #[49] false), .nilFunc, 1, 8⟩
theorem ty109_is : TyIs Try.prog 109 ty109 := ⟨Try.underlying109, info_parts (by kernel_rfl)⟩
def ty110 : TyInf := ⟨(TypeDesc.func #[66, 66, 111] #[4] false), .nilFunc, 1, 8⟩
theorem ty110_is : TyIs Try.prog 110 ty110 := ⟨Try.underlying110, info_parts (by kernel_rfl)⟩
def ty111 : TyInf := ⟨(TypeDesc.func #[3] #[4] false), .nilFunc, 1, 8⟩
theorem ty111_is : TyIs Try.prog 111 ty111 := ⟨Try.underlying111, info_parts (by kernel_rfl)⟩
def ty112 : TyInf := ⟨(TypeDesc.func #[38, 3] #[38, 25] false), .nilFunc, 1, 8⟩
theorem ty112_is : TyIs Try.prog 112 ty112 := ⟨Try.underlying112, info_parts (by kernel_rfl)⟩
def ty113 : TyInf := ⟨(TypeDesc.func #[66] #[25] false), .nilFunc, 1, 8⟩
theorem ty113_is : TyIs Try.prog 113 ty113 := ⟨Try.underlying113, info_parts (by kernel_rfl)⟩
def ty114 : TyInf := ⟨(TypeDesc.func #[24] #[24] false), .nilFunc, 1, 8⟩
theorem ty114_is : TyIs Try.prog 114 ty114 := ⟨Try.underlying114, info_parts (by kernel_rfl)⟩
def ty115 : TyInf := ⟨(TypeDesc.func #[24, 66] #[71] false), .nilFunc, 1, 8⟩
theorem ty115_is : TyIs Try.prog 115 ty115 := ⟨Try.underlying115, info_parts (by kernel_rfl)⟩
def ty117 : TyInf := ⟨(TypeDesc.func #[24, 66] #[24, 71] false), .nilFunc, 1, 8⟩
theorem ty117_is : TyIs Try.prog 117 ty117 := ⟨Try.underlying117, info_parts (by kernel_rfl)⟩
def ty118 : TyInf := ⟨(TypeDesc.func #[49, 131] #[51] true), .nilFunc, 1, 8⟩
theorem ty118_is : TyIs Try.prog 118 ty118 := ⟨Try.underlying118, info_parts (by kernel_rfl)⟩
def ty119 : TyInf := ⟨(TypeDesc.func #[66] #[24] false), .nilFunc, 1, 8⟩
theorem ty119_is : TyIs Try.prog 119 ty119 := ⟨Try.underlying119, info_parts (by kernel_rfl)⟩
def ty120 : TyInf := ⟨(TypeDesc.func #[24, 111] #[4] false), .nilFunc, 1, 8⟩
theorem ty120_is : TyIs Try.prog 120 ty120 := ⟨Try.underlying120, info_parts (by kernel_rfl)⟩
def ty121 : TyInf := ⟨(TypeDesc.func #[24, 3] #[4] false), .nilFunc, 1, 8⟩
theorem ty121_is : TyIs Try.prog 121 ty121 := ⟨Try.underlying121, info_parts (by kernel_rfl)⟩
def ty122 : TyInf := ⟨(TypeDesc.func #[46] #[38] true), .nilFunc, 1, 8⟩
theorem ty122_is : TyIs Try.prog 122 ty122 := ⟨Try.underlying122, info_parts (by kernel_rfl)⟩
def ty123 : TyInf := ⟨(TypeDesc.struct #[{ name := "e", type := 25, offset := 0, embedded := false, tag := "", pkgPath := "marchpast/txn", byteOffset := 0 }]), .agg #[.int .i64 0], 1, 8⟩
theorem ty123_is : TyIs Try.prog 123 ty123 := ⟨Try.underlying123, info_parts (by kernel_rfl)⟩
def ty124 : TyInf := ⟨(TypeDesc.struct #[{ name := "e", type := 25, offset := 0, embedded := false, tag := "", pkgPath := "marchpast/txn", byteOffset := 0 }]), .agg #[.int .i64 0], 1, 8⟩
theorem ty124_is : TyIs Try.prog 124 ty124 := ⟨Try.underlying124, info_parts (by kernel_rfl)⟩
def ty126 : TyInf := ⟨(TypeDesc.func #[135] #[] true), .nilFunc, 1, 8⟩
theorem ty126_is : TyIs Try.prog 126 ty126 := ⟨Try.underlying126, info_parts (by kernel_rfl)⟩
def ty127 : TyInf := ⟨(TypeDesc.func #[4, 25] #[25] false), .nilFunc, 1, 8⟩
theorem ty127_is : TyIs Try.prog 127 ty127 := ⟨Try.underlying127, info_parts (by kernel_rfl)⟩
def ty128 : TyInf := ⟨(TypeDesc.func #[131] #[24] true), .nilFunc, 1, 8⟩
theorem ty128_is : TyIs Try.prog 128 ty128 := ⟨Try.underlying128, info_parts (by kernel_rfl)⟩
def ty130 : TyInf := ⟨(TypeDesc.func #[66, 24] #[71, 24] false), .nilFunc, 1, 8⟩
theorem ty130_is : TyIs Try.prog 130 ty130 := ⟨Try.underlying130, info_parts (by kernel_rfl)⟩
def ty131 : TyInf := ⟨(TypeDesc.slice 24), .slice none 0 0, 1, 24⟩
theorem ty131_is : TyIs Try.prog 131 ty131 := ⟨Try.underlying131, info_parts (by kernel_rfl)⟩
def ty132 : TyInf := ⟨(TypeDesc.func #[24, 111] #[3] false), .nilFunc, 1, 8⟩
theorem ty132_is : TyIs Try.prog 132 ty132 := ⟨Try.underlying132, info_parts (by kernel_rfl)⟩
def ty133 : TyInf := ⟨(TypeDesc.func #[24, 3] #[3] false), .nilFunc, 1, 8⟩
theorem ty133_is : TyIs Try.prog 133 ty133 := ⟨Try.underlying133, info_parts (by kernel_rfl)⟩
def ty134 : TyInf := ⟨(TypeDesc.func #[38, 3] #[38] false), .nilFunc, 1, 8⟩
theorem ty134_is : TyIs Try.prog 134 ty134 := ⟨Try.underlying134, info_parts (by kernel_rfl)⟩
def ty135 : TyInf := ⟨(TypeDesc.slice 25), .slice none 0 0, 1, 24⟩
theorem ty135_is : TyIs Try.prog 135 ty135 := ⟨Try.underlying135, info_parts (by kernel_rfl)⟩
def ty136 : TyInf := ⟨(TypeDesc.func #[24, 3] #[24] false), .nilFunc, 1, 8⟩
theorem ty136_is : TyIs Try.prog 136 ty136 := ⟨Try.underlying136, info_parts (by kernel_rfl)⟩
def ty137 : TyInf := ⟨(TypeDesc.func #[23] #[3] false), .nilFunc, 1, 8⟩
theorem ty137_is : TyIs Try.prog 137 ty137 := ⟨Try.underlying137, info_parts (by kernel_rfl)⟩
def ty138 : TyInf := ⟨(TypeDesc.func #[] #[9] false), .nilFunc, 1, 8⟩
theorem ty138_is : TyIs Try.prog 138 ty138 := ⟨Try.underlying138, info_parts (by kernel_rfl)⟩
def ty144 : TyInf := ⟨(TypeDesc.func #[] #[3] false), .nilFunc, 1, 8⟩
theorem ty144_is : TyIs Try.prog 144 ty144 := ⟨Try.underlying144, info_parts (by kernel_rfl)⟩
def ty145 : TyInf := ⟨(TypeDesc.int IntKind.u32), .int .u32 0, 1, 4⟩
theorem ty145_is : TyIs Try.prog 145 ty145 := ⟨Try.underlying145, info_parts (by kernel_rfl)⟩
def ty146 : TyInf := ⟨(TypeDesc.int IntKind.u8), .int .u8 0, 1, 1⟩
theorem ty146_is : TyIs Try.prog 146 ty146 := ⟨Try.underlying146, info_parts (by kernel_rfl)⟩
def ty147 : TyInf := ⟨(TypeDesc.int IntKind.u8), .int .u8 0, 1, 1⟩
theorem ty147_is : TyIs Try.prog 147 ty147 := ⟨Try.underlying147, info_parts (by kernel_rfl)⟩
def ty148 : TyInf := ⟨(TypeDesc.func #[154, 154] #[4] false), .nilFunc, 1, 8⟩
theorem ty148_is : TyIs Try.prog 148 ty148 := ⟨Try.underlying148, info_parts (by kernel_rfl)⟩
def ty149 : TyInf := ⟨(TypeDesc.pointer 5), .pointer none, 1, 8⟩
theorem ty149_is : TyIs Try.prog 149 ty149 := ⟨Try.underlying149, info_parts (by kernel_rfl)⟩
def ty150 : TyInf := ⟨(TypeDesc.int IntKind.i32), .int .i32 0, 1, 4⟩
theorem ty150_is : TyIs Try.prog 150 ty150 := ⟨Try.underlying150, info_parts (by kernel_rfl)⟩
def ty151 : TyInf := ⟨(TypeDesc.int IntKind.i32), .int .i32 0, 1, 4⟩
theorem ty151_is : TyIs Try.prog 151 ty151 := ⟨Try.underlying151, info_parts (by kernel_rfl)⟩
def ty152 : TyInf := ⟨(TypeDesc.struct #[{ name := "Size_", type := 12, offset := 0, embedded := false, tag := "", pkgPath := "", byteOffset := 0 }, { name := "PtrBytes", type := 12, offset := 1, embedded := false, tag := "", pkgPath := "", byteOffset := 8 }, { name := "Hash", type := 145, offset := 2, embedded := false, tag := "", pkgPath := "", byteOffset := 16 }, { name := "TFlag", type := 146, offset := 3, embedded := false, tag := "", pkgPath := "", byteOffset := 20 }, { name := "Align_", type := 5, offset := 4, embedded := false, tag := "", pkgPath := "", byteOffset := 21 }, { name := "FieldAlign_", type := 5, offset := 5, embedded := false, tag := "", pkgPath := "", byteOffset := 22 }, { name := "Kind_", type := 147, offset := 6, embedded := false, tag := "", pkgPath := "", byteOffset := 23 }, { name := "Equal", type := 148, offset := 7, embedded := false, tag := "", pkgPath := "", byteOffset := 24 }, { name := "GCData", type := 149, offset := 8, embedded := false, tag := "", pkgPath := "", byteOffset := 32 }, { name := "Str", type := 150, offset := 9, embedded := false, tag := "", pkgPath := "", byteOffset := 40 }, { name := "PtrToThis", type := 151, offset := 10, embedded := false, tag := "", pkgPath := "", byteOffset := 44 }]), .agg #[.int .u64 0, .int .u64 0, .int .u32 0, .int .u8 0, .int .u8 0, .int .u8 0, .int .u8 0, .nilFunc, .pointer none, .int .i32 0, .int .i32 0], 11, 48⟩
theorem ty152_is : TyIs Try.prog 152 ty152 := ⟨Try.underlying152, info_parts (by kernel_rfl)⟩
def ty153 : TyInf := ⟨(TypeDesc.struct #[{ name := "Size_", type := 12, offset := 0, embedded := false, tag := "", pkgPath := "", byteOffset := 0 }, { name := "PtrBytes", type := 12, offset := 1, embedded := false, tag := "", pkgPath := "", byteOffset := 8 }, { name := "Hash", type := 145, offset := 2, embedded := false, tag := "", pkgPath := "", byteOffset := 16 }, { name := "TFlag", type := 146, offset := 3, embedded := false, tag := "", pkgPath := "", byteOffset := 20 }, { name := "Align_", type := 5, offset := 4, embedded := false, tag := "", pkgPath := "", byteOffset := 21 }, { name := "FieldAlign_", type := 5, offset := 5, embedded := false, tag := "", pkgPath := "", byteOffset := 22 }, { name := "Kind_", type := 147, offset := 6, embedded := false, tag := "", pkgPath := "", byteOffset := 23 }, { name := "Equal", type := 148, offset := 7, embedded := false, tag := "", pkgPath := "", byteOffset := 24 }, { name := "GCData", type := 149, offset := 8, embedded := false, tag := "", pkgPath := "", byteOffset := 32 }, { name := "Str", type := 150, offset := 9, embedded := false, tag := "", pkgPath := "", byteOffset := 40 }, { name := "PtrToThis", type := 151, offset := 10, embedded := false, tag := "", pkgPath := "", byteOffset := 44 }]), .agg #[.int .u64 0, .int .u64 0, .int .u32 0, .int .u8 0, .int .u8 0, .int .u8 0, .int .u8 0, .nilFunc, .pointer none, .int .i32 0, .int .i32 0], 11, 48⟩
theorem ty153_is : TyIs Try.prog 153 ty153 := ⟨Try.underlying153, info_parts (by kernel_rfl)⟩
def ttl : List (Nat × TyInf) := [(1, ty1), (2, ty2), (3, ty3), (4, ty4), (5, ty5), (6, ty6), (9, ty9), (10, ty10), (11, ty11), (12, ty12), (15, ty15), (16, ty16), (17, ty17), (20, ty20), (21, ty21), (22, ty22), (23, ty23), (24, ty24), (25, ty25), (27, ty27), (28, ty28), (29, ty29), (30, ty30), (31, ty31), (32, ty32), (34, ty34), (35, ty35), (36, ty36), (37, ty37), (38, ty38), (40, ty40), (42, ty42), (43, ty43), (44, ty44), (45, ty45), (46, ty46), (47, ty47), (48, ty48), (49, ty49), (50, ty50), (51, ty51), (53, ty53), (54, ty54), (55, ty55), (56, ty56), (57, ty57), (58, ty58), (59, ty59), (61, ty61), (62, ty62), (63, ty63), (64, ty64), (65, ty65), (66, ty66), (67, ty67), (68, ty68), (69, ty69), (70, ty70), (71, ty71), (73, ty73), (74, ty74), (75, ty75), (76, ty76), (77, ty77), (78, ty78), (80, ty80), (81, ty81), (82, ty82), (83, ty83), (84, ty84), (85, ty85), (86, ty86), (87, ty87), (88, ty88), (90, ty90), (91, ty91), (92, ty92), (93, ty93), (94, ty94), (95, ty95), (97, ty97), (98, ty98), (99, ty99), (100, ty100), (101, ty101), (102, ty102), (103, ty103), (104, ty104), (106, ty106), (107, ty107), (108, ty108), (109, ty109), (110, ty110), (111, ty111), (112, ty112), (113, ty113), (114, ty114), (115, ty115), (117, ty117), (118, ty118), (119, ty119), (120, ty120), (121, ty121), (122, ty122), (123, ty123), (124, ty124), (126, ty126), (127, ty127), (128, ty128), (130, ty130), (131, ty131), (132, ty132), (133, ty133), (134, ty134), (135, ty135), (136, ty136), (137, ty137), (138, ty138), (144, ty144), (145, ty145), (146, ty146), (147, ty147), (148, ty148), (149, ty149), (150, ty150), (151, ty151), (152, ty152), (153, ty153)]
def ttAt : List (Nat × TyInf) → Nat → Option TyInf
  | [], _ => none
  | (i, d) :: l, t => match Nat.beq i t with
    | true => some d
    | false => ttAt l t
inductive Ttl (P : Program) : List (Nat × TyInf) → Prop
  | nil : Ttl P []
  | cons {t : Nat} {d : TyInf} {l : List (Nat × TyInf)} (h : TyIs P t d) (k : Ttl P l) : Ttl P ((t, d) :: l)
theorem Ttl.ok {P : Program} {l : List (Nat × TyInf)} (h : Ttl P l) : ∀ t d, ttAt l t = some d → TyIs P t d := by
  induction h with
  | nil => intro t d e; cases e
  | @cons i d0 l h k ih =>
    intro t d e
    simp only [ttAt] at e
    cases hb : Nat.beq i t with
    | true => rw [hb] at e; injection e with e; subst e; rw [← Nat.eq_of_beq_eq_true hb]; exact h
    | false => rw [hb] at e; exact ih t d e
theorem ttl_ok : Ttl Try.prog ttl :=
  .cons ty1_is <|
  .cons ty2_is <|
  .cons ty3_is <|
  .cons ty4_is <|
  .cons ty5_is <|
  .cons ty6_is <|
  .cons ty9_is <|
  .cons ty10_is <|
  .cons ty11_is <|
  .cons ty12_is <|
  .cons ty15_is <|
  .cons ty16_is <|
  .cons ty17_is <|
  .cons ty20_is <|
  .cons ty21_is <|
  .cons ty22_is <|
  .cons ty23_is <|
  .cons ty24_is <|
  .cons ty25_is <|
  .cons ty27_is <|
  .cons ty28_is <|
  .cons ty29_is <|
  .cons ty30_is <|
  .cons ty31_is <|
  .cons ty32_is <|
  .cons ty34_is <|
  .cons ty35_is <|
  .cons ty36_is <|
  .cons ty37_is <|
  .cons ty38_is <|
  .cons ty40_is <|
  .cons ty42_is <|
  .cons ty43_is <|
  .cons ty44_is <|
  .cons ty45_is <|
  .cons ty46_is <|
  .cons ty47_is <|
  .cons ty48_is <|
  .cons ty49_is <|
  .cons ty50_is <|
  .cons ty51_is <|
  .cons ty53_is <|
  .cons ty54_is <|
  .cons ty55_is <|
  .cons ty56_is <|
  .cons ty57_is <|
  .cons ty58_is <|
  .cons ty59_is <|
  .cons ty61_is <|
  .cons ty62_is <|
  .cons ty63_is <|
  .cons ty64_is <|
  .cons ty65_is <|
  .cons ty66_is <|
  .cons ty67_is <|
  .cons ty68_is <|
  .cons ty69_is <|
  .cons ty70_is <|
  .cons ty71_is <|
  .cons ty73_is <|
  .cons ty74_is <|
  .cons ty75_is <|
  .cons ty76_is <|
  .cons ty77_is <|
  .cons ty78_is <|
  .cons ty80_is <|
  .cons ty81_is <|
  .cons ty82_is <|
  .cons ty83_is <|
  .cons ty84_is <|
  .cons ty85_is <|
  .cons ty86_is <|
  .cons ty87_is <|
  .cons ty88_is <|
  .cons ty90_is <|
  .cons ty91_is <|
  .cons ty92_is <|
  .cons ty93_is <|
  .cons ty94_is <|
  .cons ty95_is <|
  .cons ty97_is <|
  .cons ty98_is <|
  .cons ty99_is <|
  .cons ty100_is <|
  .cons ty101_is <|
  .cons ty102_is <|
  .cons ty103_is <|
  .cons ty104_is <|
  .cons ty106_is <|
  .cons ty107_is <|
  .cons ty108_is <|
  .cons ty109_is <|
  .cons ty110_is <|
  .cons ty111_is <|
  .cons ty112_is <|
  .cons ty113_is <|
  .cons ty114_is <|
  .cons ty115_is <|
  .cons ty117_is <|
  .cons ty118_is <|
  .cons ty119_is <|
  .cons ty120_is <|
  .cons ty121_is <|
  .cons ty122_is <|
  .cons ty123_is <|
  .cons ty124_is <|
  .cons ty126_is <|
  .cons ty127_is <|
  .cons ty128_is <|
  .cons ty130_is <|
  .cons ty131_is <|
  .cons ty132_is <|
  .cons ty133_is <|
  .cons ty134_is <|
  .cons ty135_is <|
  .cons ty136_is <|
  .cons ty137_is <|
  .cons ty138_is <|
  .cons ty144_is <|
  .cons ty145_is <|
  .cons ty146_is <|
  .cons ty147_is <|
  .cons ty148_is <|
  .cons ty149_is <|
  .cons ty150_is <|
  .cons ty151_is <|
  .cons ty152_is <|
  .cons ty153_is <|
  .nil
theorem mixd : Try.prog.follows .mixedOrders = true := by kernel_rfl
end Go.Proofs.Ytjgmbgfcffnanaa
