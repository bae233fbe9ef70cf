/- Part 2 of the texts that a law of the seat leans on: the ground of the walks, the facts of the program, its functions one by one. -/
import Derived.Test.YtpandioolpnihaaWho1
import Derived.Test.YtpandioolpnihaaProg
import Derived.ChangeArms
import Derived.Laws.BytesString
import Derived.Sort.Walk0
import Derived.Maps.RangeRun
import Derived.RangeFuncIn
import Derived.RangeFuncRecord
import Derived.Laws.IdiomStrings
import Derived.Scope
import Derived.Lib.BytesEntry
import Derived.Laws.Externs
import Derived.Lib.Overlaps
import Derived.Lib.AppendZerosOnto
/- CLOSED FACTS of this seat's program: its types' rows, its functions' bodies. -/
namespace Go.Proofs.Ytpandioolpnihaa
open Go Go.Wk
set_option linter.unusedVariables false

theorem ti0 : TI Try.prog 0 1 0 (Go.Value.tuple #[]) (Go.TypeDesc.tuple #[]) := ⟨Try.underlying0, Try.t0, by kernel_rfl, rfl, rfl, rfl⟩
theorem ti1 : TI Try.prog 1 1 8 Go.Value.nilFunc (Go.TypeDesc.func #[] #[] false) := ⟨Try.underlying1, Try.t1, by kernel_rfl, rfl, rfl, rfl⟩
theorem ti2 : TI Try.prog 2 1 8 (Go.Value.int Go.IntKind.i64 0) (Go.TypeDesc.int Go.IntKind.i64) := ⟨Try.underlying2, Try.t2, by kernel_rfl, rfl, rfl, rfl⟩
theorem ti3 : TI Try.prog 3 1 8 (Go.Value.int Go.IntKind.i64 0) (Go.TypeDesc.int Go.IntKind.i64) := ⟨Try.underlying3, Try.t3, by kernel_rfl, rfl, rfl, rfl⟩
theorem ti4 : TI Try.prog 4 1 1 (Go.Value.bool false) Go.TypeDesc.bool := ⟨Try.underlying4, Try.t4, by kernel_rfl, rfl, rfl, rfl⟩
theorem ti5 : TI Try.prog 5 1 1 (Go.Value.int Go.IntKind.u8 0) (Go.TypeDesc.int Go.IntKind.u8) := ⟨Try.underlying5, Try.t5, by kernel_rfl, rfl, rfl, rfl⟩
theorem ti6 : TI Try.prog 6 1 1 (Go.Value.int Go.IntKind.u8 0) (Go.TypeDesc.int Go.IntKind.u8) := ⟨Try.underlying6, Try.t6, by kernel_rfl, rfl, rfl, rfl⟩
theorem ti7 : TI Try.prog 7 4 24 (Go.Value.agg #[(Go.Value.int Go.IntKind.i64 0), (Go.Value.int Go.IntKind.i64 0), (Go.Value.bool false), (Go.Value.int Go.IntKind.u8 0)]) (Go.TypeDesc.struct #[{ name := "x", type := 2, offset := 0, embedded := false, tag := "", pkgPath := "runtime", byteOffset := 0 }, { name := "y", type := 3, offset := 1, embedded := false, tag := "", pkgPath := "runtime", byteOffset := 8 }, { name := "signed", type := 4, offset := 2, embedded := false, tag := "", pkgPath := "runtime", byteOffset := 16 }, { name := "code", type := 6, offset := 3, embedded := false, tag := "", pkgPath := "runtime", byteOffset := 17 }]) := ⟨Try.underlying7, Try.t7, by kernel_rfl, rfl, rfl, rfl⟩
theorem pl7 : Places Try.prog #[{ name := "x", type := 2, offset := 0, embedded := false, tag := "", pkgPath := "runtime", byteOffset := 0 }, { name := "y", type := 3, offset := 1, embedded := false, tag := "", pkgPath := "runtime", byteOffset := 8 }, { name := "signed", type := 4, offset := 2, embedded := false, tag := "", pkgPath := "runtime", byteOffset := 16 }, { name := "code", type := 6, offset := 3, embedded := false, tag := "", pkgPath := "runtime", byteOffset := 17 }] #[(0, 1), (1, 1), (2, 1), (3, 1)] := fun w => by kernel_rfl
theorem ti8 : TI Try.prog 8 4 24 (Go.Value.agg #[(Go.Value.int Go.IntKind.i64 0), (Go.Value.int Go.IntKind.i64 0), (Go.Value.bool false), (Go.Value.int Go.IntKind.u8 0)]) (Go.TypeDesc.struct #[{ name := "x", type := 2, offset := 0, embedded := false, tag := "", pkgPath := "runtime", byteOffset := 0 }, { name := "y", type := 3, offset := 1, embedded := false, tag := "", pkgPath := "runtime", byteOffset := 8 }, { name := "signed", type := 4, offset := 2, embedded := false, tag := "", pkgPath := "runtime", byteOffset := 16 }, { name := "code", type := 6, offset := 3, embedded := false, tag := "", pkgPath := "runtime", byteOffset := 17 }]) := ⟨Try.underlying8, Try.t8, by kernel_rfl, rfl, rfl, rfl⟩
theorem pl8 : Places Try.prog #[{ name := "x", type := 2, offset := 0, embedded := false, tag := "", pkgPath := "runtime", byteOffset := 0 }, { name := "y", type := 3, offset := 1, embedded := false, tag := "", pkgPath := "runtime", byteOffset := 8 }, { name := "signed", type := 4, offset := 2, embedded := false, tag := "", pkgPath := "runtime", byteOffset := 16 }, { name := "code", type := 6, offset := 3, embedded := false, tag := "", pkgPath := "runtime", byteOffset := 17 }] #[(0, 1), (1, 1), (2, 1), (3, 1)] := fun w => by kernel_rfl
theorem ti9 : TI Try.prog 9 1 16 (Go.Value.string { data := #[] }) Go.TypeDesc.string := ⟨Try.underlying9, Try.t9, by kernel_rfl, rfl, rfl, rfl⟩
theorem ti10 : TI Try.prog 10 1 16 (Go.Value.string { data := #[] }) Go.TypeDesc.string := ⟨Try.underlying10, Try.t10, by kernel_rfl, rfl, rfl, rfl⟩
theorem ti11 : TI Try.prog 11 1 16 (Go.Value.string { data := #[] }) Go.TypeDesc.string := ⟨Try.underlying11, Try.t11, by kernel_rfl, rfl, rfl, rfl⟩
theorem ti12 : TI Try.prog 12 1 8 (Go.Value.int Go.IntKind.u64 0) (Go.TypeDesc.int Go.IntKind.u64) := ⟨Try.underlying12, Try.t12, by kernel_rfl, rfl, rfl, rfl⟩
theorem ti13 : TI Try.prog 13 2 24 (Go.Value.agg #[(Go.Value.string { data := #[] }), (Go.Value.int Go.IntKind.u64 0)]) (Go.TypeDesc.struct #[{ name := "msg", type := 9, offset := 0, embedded := false, tag := "", pkgPath := "runtime", byteOffset := 0 }, { name := "addr", type := 12, offset := 1, embedded := false, tag := "", pkgPath := "runtime", byteOffset := 16 }]) := ⟨Try.underlying13, Try.t13, by kernel_rfl, rfl, rfl, rfl⟩
theorem pl13 : Places Try.prog #[{ name := "msg", type := 9, offset := 0, embedded := false, tag := "", pkgPath := "runtime", byteOffset := 0 }, { name := "addr", type := 12, offset := 1, embedded := false, tag := "", pkgPath := "runtime", byteOffset := 16 }] #[(0, 1), (1, 1)] := fun w => by kernel_rfl
theorem ti14 : TI Try.prog 14 2 24 (Go.Value.agg #[(Go.Value.string { data := #[] }), (Go.Value.int Go.IntKind.u64 0)]) (Go.TypeDesc.struct #[{ name := "msg", type := 9, offset := 0, embedded := false, tag := "", pkgPath := "runtime", byteOffset := 0 }, { name := "addr", type := 12, offset := 1, embedded := false, tag := "", pkgPath := "runtime", byteOffset := 16 }]) := ⟨Try.underlying14, Try.t14, by kernel_rfl, rfl, rfl, rfl⟩
theorem pl14 : Places Try.prog #[{ name := "msg", type := 9, offset := 0, embedded := false, tag := "", pkgPath := "runtime", byteOffset := 0 }, { name := "addr", type := 12, offset := 1, embedded := false, tag := "", pkgPath := "runtime", byteOffset := 16 }] #[(0, 1), (1, 1)] := fun w => by kernel_rfl
theorem ti15 : TI Try.prog 15 1 8 (Go.Value.pointer none) (Go.TypeDesc.pointer 174) := ⟨Try.underlying15, Try.t15, by kernel_rfl, rfl, rfl, rfl⟩
theorem ti16 : TI Try.prog 16 1 8 (Go.Value.pointer none) (Go.TypeDesc.pointer 177) := ⟨Try.underlying16, Try.t16, by kernel_rfl, rfl, rfl, rfl⟩
theorem ti17 : TI Try.prog 17 1 8 (Go.Value.pointer none) (Go.TypeDesc.pointer 186) := ⟨Try.underlying17, Try.t17, by kernel_rfl, rfl, rfl, rfl⟩
theorem ti18 : TI Try.prog 18 1 8 (Go.Value.agg #[(Go.Value.pointer none)]) (Go.TypeDesc.struct #[{ name := "typ", type := 17, offset := 0, embedded := false, tag := "", pkgPath := "internal/runtime/maps", byteOffset := 0 }]) := ⟨Try.underlying18, Try.t18, by kernel_rfl, rfl, rfl, rfl⟩
theorem pl18 : Places Try.prog #[{ name := "typ", type := 17, offset := 0, embedded := false, tag := "", pkgPath := "internal/runtime/maps", byteOffset := 0 }] #[(0, 1)] := fun w => by kernel_rfl
theorem ti19 : TI Try.prog 19 1 8 (Go.Value.agg #[(Go.Value.pointer none)]) (Go.TypeDesc.struct #[{ name := "typ", type := 17, offset := 0, embedded := false, tag := "", pkgPath := "internal/runtime/maps", byteOffset := 0 }]) := ⟨Try.underlying19, Try.t19, by kernel_rfl, rfl, rfl, rfl⟩
theorem pl19 : Places Try.prog #[{ name := "typ", type := 17, offset := 0, embedded := false, tag := "", pkgPath := "internal/runtime/maps", byteOffset := 0 }] #[(0, 1)] := fun w => by kernel_rfl
theorem ti20 : TI Try.prog 20 1 16 Go.Value.nilIface (Go.TypeDesc.interface #[]) := ⟨Try.underlying20, Try.t20, by kernel_rfl, rfl, rfl, rfl⟩
theorem ti21 : TI Try.prog 21 1 4 (Go.Value.int Go.IntKind.i32 0) (Go.TypeDesc.int Go.IntKind.i32) := ⟨Try.underlying21, Try.t21, by kernel_rfl, rfl, rfl, rfl⟩
theorem ti22 : TI Try.prog 22 1 24 (Go.Value.slice none 0 0) (Go.TypeDesc.slice 92) := ⟨Try.underlying22, Try.t22, by kernel_rfl, rfl, rfl, rfl⟩
theorem ti23 : TI Try.prog 23 1 24 (Go.Value.slice none 0 0) (Go.TypeDesc.slice 5) := ⟨Try.underlying23, Try.t23, by kernel_rfl, rfl, rfl, rfl⟩
theorem ti24 : TI Try.prog 24 1 8 (Go.Value.int Go.IntKind.u64 0) (Go.TypeDesc.int Go.IntKind.u64) := ⟨Try.underlying24, Try.t24, by kernel_rfl, rfl, rfl, rfl⟩
theorem ti25 : TI Try.prog 25 1 8 Go.Value.nilFunc (Go.TypeDesc.func #[] #[4] false) := ⟨Try.underlying25, Try.t25, by kernel_rfl, rfl, rfl, rfl⟩
theorem ti26 : TI Try.prog 26 1 8 (Go.Value.pointer none) (Go.TypeDesc.pointer 98) := ⟨Try.underlying26, Try.t26, by kernel_rfl, rfl, rfl, rfl⟩
theorem ti27 : TI Try.prog 27 1 8 (Go.Value.pointer none) (Go.TypeDesc.pointer 66) := ⟨Try.underlying27, Try.t27, by kernel_rfl, rfl, rfl, rfl⟩
theorem ti28 : TI Try.prog 28 1 0 (Go.Value.tuple #[(Go.Value.pointer none), (Go.Value.pointer none), (Go.Value.bool false), (Go.Value.bool false)]) (Go.TypeDesc.tuple #[26, 27, 4, 4]) := ⟨Try.underlying28, Try.t28, by kernel_rfl, rfl, rfl, rfl⟩
theorem ti29 : TI Try.prog 29 1 8 Go.Value.nilFunc (Go.TypeDesc.func #[22] #[26, 27, 4, 4] false) := ⟨Try.underlying29, Try.t29, by kernel_rfl, rfl, rfl, rfl⟩
theorem ti30 : TI Try.prog 30 1 24 (Go.Value.slice none 0 0) (Go.TypeDesc.slice 23) := ⟨Try.underlying30, Try.t30, by kernel_rfl, rfl, rfl, rfl⟩
theorem ti31 : TI Try.prog 31 5 72 (Go.Value.agg #[(Go.Value.int Go.IntKind.u64 0), (Go.Value.int Go.IntKind.u64 0), (Go.Value.bool false), (Go.Value.slice none 0 0), (Go.Value.slice none 0 0)]) (Go.TypeDesc.struct #[{ name := "Ts", type := 24, offset := 0, embedded := false, tag := "", pkgPath := "", byteOffset := 0 }, { name := "Txn", type := 24, offset := 1, embedded := false, tag := "", pkgPath := "", byteOffset := 8 }, { name := "Dead", type := 4, offset := 2, embedded := false, tag := "", pkgPath := "", byteOffset := 16 }, { name := "Val", type := 23, offset := 3, embedded := false, tag := "", pkgPath := "", byteOffset := 24 }, { name := "Keys", type := 30, offset := 4, embedded := false, tag := "", pkgPath := "", byteOffset := 48 }]) := ⟨Try.underlying31, Try.t31, by kernel_rfl, rfl, rfl, rfl⟩
theorem pl31 : Places Try.prog #[{ name := "Ts", type := 24, offset := 0, embedded := false, tag := "", pkgPath := "", byteOffset := 0 }, { name := "Txn", type := 24, offset := 1, embedded := false, tag := "", pkgPath := "", byteOffset := 8 }, { name := "Dead", type := 4, offset := 2, embedded := false, tag := "", pkgPath := "", byteOffset := 16 }, { name := "Val", type := 23, offset := 3, embedded := false, tag := "", pkgPath := "", byteOffset := 24 }, { name := "Keys", type := 30, offset := 4, embedded := false, tag := "", pkgPath := "", byteOffset := 48 }] #[(0, 1), (1, 1), (2, 1), (3, 1), (4, 1)] := fun w => by kernel_rfl
theorem ti32 : TI Try.prog 32 5 72 (Go.Value.agg #[(Go.Value.int Go.IntKind.u64 0), (Go.Value.int Go.IntKind.u64 0), (Go.Value.bool false), (Go.Value.slice none 0 0), (Go.Value.slice none 0 0)]) (Go.TypeDesc.struct #[{ name := "Ts", type := 24, offset := 0, embedded := false, tag := "", pkgPath := "", byteOffset := 0 }, { name := "Txn", type := 24, offset := 1, embedded := false, tag := "", pkgPath := "", byteOffset := 8 }, { name := "Dead", type := 4, offset := 2, embedded := false, tag := "", pkgPath := "", byteOffset := 16 }, { name := "Val", type := 23, offset := 3, embedded := false, tag := "", pkgPath := "", byteOffset := 24 }, { name := "Keys", type := 30, offset := 4, embedded := false, tag := "", pkgPath := "", byteOffset := 48 }]) := ⟨Try.underlying32, Try.t32, by kernel_rfl, rfl, rfl, rfl⟩
theorem pl32 : Places Try.prog #[{ name := "Ts", type := 24, offset := 0, embedded := false, tag := "", pkgPath := "", byteOffset := 0 }, { name := "Txn", type := 24, offset := 1, embedded := false, tag := "", pkgPath := "", byteOffset := 8 }, { name := "Dead", type := 4, offset := 2, embedded := false, tag := "", pkgPath := "", byteOffset := 16 }, { name := "Val", type := 23, offset := 3, embedded := false, tag := "", pkgPath := "", byteOffset := 24 }, { name := "Keys", type := 30, offset := 4, embedded := false, tag := "", pkgPath := "", byteOffset := 48 }] #[(0, 1), (1, 1), (2, 1), (3, 1), (4, 1)] := fun w => by kernel_rfl
theorem ti33 : TI Try.prog 33 1 0 (Go.Value.tuple #[(Go.Value.agg #[(Go.Value.int Go.IntKind.u64 0), (Go.Value.int Go.IntKind.u64 0), (Go.Value.bool false), (Go.Value.slice none 0 0), (Go.Value.slice none 0 0)]), (Go.Value.bool false)]) (Go.TypeDesc.tuple #[32, 4]) := ⟨Try.underlying33, Try.t33, by kernel_rfl, rfl, rfl, rfl⟩
theorem ti34 : TI Try.prog 34 1 8 Go.Value.nilFunc (Go.TypeDesc.func #[23, 24] #[32, 4] false) := ⟨Try.underlying34, Try.t34, by kernel_rfl, rfl, rfl, rfl⟩
theorem ti35 : TI Try.prog 35 1 8 Go.Value.nilFunc (Go.TypeDesc.func #[32, 32] #[4] false) := ⟨Try.underlying35, Try.t35, by kernel_rfl, rfl, rfl, rfl⟩
theorem ti36 : TI Try.prog 36 1 8 Go.Value.nilFunc (Go.TypeDesc.func #[30, 30] #[4] false) := ⟨Try.underlying36, Try.t36, by kernel_rfl, rfl, rfl, rfl⟩
theorem ti37 : TI Try.prog 37 1 8 Go.Value.nilFunc (Go.TypeDesc.func #[24] #[30] false) := ⟨Try.underlying37, Try.t37, by kernel_rfl, rfl, rfl, rfl⟩
theorem ti38 : TI Try.prog 38 1 8 Go.Value.nilFunc (Go.TypeDesc.func #[] #[30] false) := ⟨Try.underlying38, Try.t38, by kernel_rfl, rfl, rfl, rfl⟩
theorem ti39 : TI Try.prog 39 1 8 Go.Value.nilFunc (Go.TypeDesc.func #[109] #[] false) := ⟨Try.underlying39, Try.t39, by kernel_rfl, rfl, rfl, rfl⟩
theorem ti40 : TI Try.prog 40 1 8 Go.Value.nilFunc (Go.TypeDesc.func #[109] #[] false) := ⟨Try.underlying40, Try.t40, by kernel_rfl, rfl, rfl, rfl⟩
theorem ti41 : TI Try.prog 41 1 8 Go.Value.nilFunc (Go.TypeDesc.func #[] #[40] false) := ⟨Try.underlying41, Try.t41, by kernel_rfl, rfl, rfl, rfl⟩
theorem ti42 : TI Try.prog 42 1 8 Go.Value.nilFunc (Go.TypeDesc.func #[22, 23, 24, 24, 3] #[4] false) := ⟨Try.underlying42, Try.t42, by kernel_rfl, rfl, rfl, rfl⟩
theorem ti43 : TI Try.prog 43 1 8 Go.Value.nilFunc (Go.TypeDesc.func #[24] #[3] false) := ⟨Try.underlying43, Try.t43, by kernel_rfl, rfl, rfl, rfl⟩
theorem ti44 : TI Try.prog 44 1 8 Go.Value.nilFunc (Go.TypeDesc.func #[22, 24, 23, 24] #[4] false) := ⟨Try.underlying44, Try.t44, by kernel_rfl, rfl, rfl, rfl⟩
theorem ti45 : TI Try.prog 45 1 8 Go.Value.nilFunc (Go.TypeDesc.func #[32] #[4] false) := ⟨Try.underlying45, Try.t45, by kernel_rfl, rfl, rfl, rfl⟩
theorem ti46 : TI Try.prog 46 1 8 Go.Value.nilFunc (Go.TypeDesc.func #[23, 32] #[] false) := ⟨Try.underlying46, Try.t46, by kernel_rfl, rfl, rfl, rfl⟩
theorem ti47 : TI Try.prog 47 1 8 Go.Value.nilFunc (Go.TypeDesc.func #[22, 23, 32, 24] #[4] false) := ⟨Try.underlying47, Try.t47, by kernel_rfl, rfl, rfl, rfl⟩
theorem ti48 : TI Try.prog 48 1 8 Go.Value.nilFunc (Go.TypeDesc.func #[49, 49] #[4] false) := ⟨Try.underlying48, Try.t48, by kernel_rfl, rfl, rfl, rfl⟩
theorem ti49 : TI Try.prog 49 1 24 (Go.Value.slice none 0 0) (Go.TypeDesc.slice 55) := ⟨Try.underlying49, Try.t49, by kernel_rfl, rfl, rfl, rfl⟩
theorem ti50 : TI Try.prog 50 1 8 Go.Value.nilFunc (Go.TypeDesc.func #[23, 23, 24] #[49] false) := ⟨Try.underlying50, Try.t50, by kernel_rfl, rfl, rfl, rfl⟩
theorem ti51 : TI Try.prog 51 1 8 Go.Value.nilFunc (Go.TypeDesc.func #[22, 23, 23, 24] #[4] false) := ⟨Try.underlying51, Try.t51, by kernel_rfl, rfl, rfl, rfl⟩
theorem ti52 : TI Try.prog 52 1 8 Go.Value.nilFunc (Go.TypeDesc.func #[24, 24] #[3] false) := ⟨Try.underlying52, Try.t52, by kernel_rfl, rfl, rfl, rfl⟩
theorem ti53 : TI Try.prog 53 1 24 (Go.Value.slice none 0 0) (Go.TypeDesc.slice 32) := ⟨Try.underlying53, Try.t53, by kernel_rfl, rfl, rfl, rfl⟩
theorem ti54 : TI Try.prog 54 7 120 (Go.Value.agg #[(Go.Value.slice none 0 0), (Go.Value.slice none 0 0), (Go.Value.int Go.IntKind.u64 0), (Go.Value.int Go.IntKind.u64 0), (Go.Value.bool false), (Go.Value.slice none 0 0), (Go.Value.slice none 0 0)]) (Go.TypeDesc.struct #[{ name := "Key", type := 23, offset := 0, embedded := false, tag := "", pkgPath := "", byteOffset := 0 }, { name := "Versions", type := 53, offset := 1, embedded := false, tag := "", pkgPath := "", byteOffset := 24 }, { name := "Intent", type := 32, offset := 2, embedded := false, tag := "", pkgPath := "", byteOffset := 48 }]) := ⟨Try.underlying54, Try.t54, by kernel_rfl, rfl, rfl, rfl⟩
theorem pl54 : Places Try.prog #[{ name := "Key", type := 23, offset := 0, embedded := false, tag := "", pkgPath := "", byteOffset := 0 }, { name := "Versions", type := 53, offset := 1, embedded := false, tag := "", pkgPath := "", byteOffset := 24 }, { name := "Intent", type := 32, offset := 2, embedded := false, tag := "", pkgPath := "", byteOffset := 48 }] #[(0, 1), (1, 1), (2, 5)] := fun w => by kernel_rfl
theorem ti55 : TI Try.prog 55 7 120 (Go.Value.agg #[(Go.Value.slice none 0 0), (Go.Value.slice none 0 0), (Go.Value.int Go.IntKind.u64 0), (Go.Value.int Go.IntKind.u64 0), (Go.Value.bool false), (Go.Value.slice none 0 0), (Go.Value.slice none 0 0)]) (Go.TypeDesc.struct #[{ name := "Key", type := 23, offset := 0, embedded := false, tag := "", pkgPath := "", byteOffset := 0 }, { name := "Versions", type := 53, offset := 1, embedded := false, tag := "", pkgPath := "", byteOffset := 24 }, { name := "Intent", type := 32, offset := 2, embedded := false, tag := "", pkgPath := "", byteOffset := 48 }]) := ⟨Try.underlying55, Try.t55, by kernel_rfl, rfl, rfl, rfl⟩
theorem pl55 : Places Try.prog #[{ name := "Key", type := 23, offset := 0, embedded := false, tag := "", pkgPath := "", byteOffset := 0 }, { name := "Versions", type := 53, offset := 1, embedded := false, tag := "", pkgPath := "", byteOffset := 24 }, { name := "Intent", type := 32, offset := 2, embedded := false, tag := "", pkgPath := "", byteOffset := 48 }] #[(0, 1), (1, 1), (2, 5)] := fun w => by kernel_rfl
theorem ti56 : TI Try.prog 56 1 8 Go.Value.nilFunc (Go.TypeDesc.func #[22, 24, 24] #[4] false) := ⟨Try.underlying56, Try.t56, by kernel_rfl, rfl, rfl, rfl⟩
theorem ti57 : TI Try.prog 57 1 24 (Go.Value.slice none 0 0) (Go.TypeDesc.slice 78) := ⟨Try.underlying57, Try.t57, by kernel_rfl, rfl, rfl, rfl⟩
theorem ti58 : TI Try.prog 58 1 8 Go.Value.nilFunc (Go.TypeDesc.func #[57] #[4] false) := ⟨Try.underlying58, Try.t58, by kernel_rfl, rfl, rfl, rfl⟩
theorem ti59 : TI Try.prog 59 1 8 (Go.Value.pointer none) (Go.TypeDesc.pointer 123) := ⟨Try.underlying59, Try.t59, by kernel_rfl, rfl, rfl, rfl⟩
theorem ti60 : TI Try.prog 60 1 8 Go.Value.nilFunc (Go.TypeDesc.func #[] #[59] false) := ⟨Try.underlying60, Try.t60, by kernel_rfl, rfl, rfl, rfl⟩
theorem ti61 : TI Try.prog 61 1 8 (Go.Value.pointer none) (Go.TypeDesc.pointer 68) := ⟨Try.underlying61, Try.t61, by kernel_rfl, rfl, rfl, rfl⟩
theorem ti62 : TI Try.prog 62 1 24 (Go.Value.slice none 0 0) (Go.TypeDesc.slice 145) := ⟨Try.underlying62, Try.t62, by kernel_rfl, rfl, rfl, rfl⟩
theorem ti63 : TI Try.prog 63 1 24 (Go.Value.agg #[(Go.Value.slice none 0 0)]) (Go.TypeDesc.struct #[{ name := "l", type := 62, offset := 0, embedded := false, tag := "", pkgPath := "plenum/plenumref15", byteOffset := 0 }]) := ⟨Try.underlying63, Try.t63, by kernel_rfl, rfl, rfl, rfl⟩
theorem pl63 : Places Try.prog #[{ name := "l", type := 62, offset := 0, embedded := false, tag := "", pkgPath := "plenum/plenumref15", byteOffset := 0 }] #[(0, 1)] := fun w => by kernel_rfl
theorem ti64 : TI Try.prog 64 1 24 (Go.Value.agg #[(Go.Value.slice none 0 0)]) (Go.TypeDesc.struct #[{ name := "l", type := 62, offset := 0, embedded := false, tag := "", pkgPath := "plenum/plenumref15", byteOffset := 0 }]) := ⟨Try.underlying64, Try.t64, by kernel_rfl, rfl, rfl, rfl⟩
theorem pl64 : Places Try.prog #[{ name := "l", type := 62, offset := 0, embedded := false, tag := "", pkgPath := "plenum/plenumref15", byteOffset := 0 }] #[(0, 1)] := fun w => by kernel_rfl
theorem ti65 : TI Try.prog 65 1 24 (Go.Value.agg #[(Go.Value.slice none 0 0)]) (Go.TypeDesc.struct #[{ name := "Cells", type := 49, offset := 0, embedded := false, tag := "", pkgPath := "", byteOffset := 0 }]) := ⟨Try.underlying65, Try.t65, by kernel_rfl, rfl, rfl, rfl⟩
theorem pl65 : Places Try.prog #[{ name := "Cells", type := 49, offset := 0, embedded := false, tag := "", pkgPath := "", byteOffset := 0 }] #[(0, 1)] := fun w => by kernel_rfl
theorem ti66 : TI Try.prog 66 1 24 (Go.Value.agg #[(Go.Value.slice none 0 0)]) (Go.TypeDesc.struct #[{ name := "Cells", type := 49, offset := 0, embedded := false, tag := "", pkgPath := "", byteOffset := 0 }]) := ⟨Try.underlying66, Try.t66, by kernel_rfl, rfl, rfl, rfl⟩
theorem pl66 : Places Try.prog #[{ name := "Cells", type := 49, offset := 0, embedded := false, tag := "", pkgPath := "", byteOffset := 0 }] #[(0, 1)] := fun w => by kernel_rfl
theorem ti67 : TI Try.prog 67 2 48 (Go.Value.agg #[(Go.Value.slice none 0 0), (Go.Value.slice none 0 0)]) (Go.TypeDesc.struct #[{ name := "Again", type := 64, offset := 0, embedded := false, tag := "", pkgPath := "", byteOffset := 0 }, { name := "S", type := 66, offset := 1, embedded := false, tag := "", pkgPath := "", byteOffset := 24 }]) := ⟨Try.underlying67, Try.t67, by kernel_rfl, rfl, rfl, rfl⟩
theorem pl67 : Places Try.prog #[{ name := "Again", type := 64, offset := 0, embedded := false, tag := "", pkgPath := "", byteOffset := 0 }, { name := "S", type := 66, offset := 1, embedded := false, tag := "", pkgPath := "", byteOffset := 24 }] #[(0, 1), (1, 1)] := fun w => by kernel_rfl
theorem ti68 : TI Try.prog 68 2 48 (Go.Value.agg #[(Go.Value.slice none 0 0), (Go.Value.slice none 0 0)]) (Go.TypeDesc.struct #[{ name := "Again", type := 64, offset := 0, embedded := false, tag := "", pkgPath := "", byteOffset := 0 }, { name := "S", type := 66, offset := 1, embedded := false, tag := "", pkgPath := "", byteOffset := 24 }]) := ⟨Try.underlying68, Try.t68, by kernel_rfl, rfl, rfl, rfl⟩
theorem pl68 : Places Try.prog #[{ name := "Again", type := 64, offset := 0, embedded := false, tag := "", pkgPath := "", byteOffset := 0 }, { name := "S", type := 66, offset := 1, embedded := false, tag := "", pkgPath := "", byteOffset := 24 }] #[(0, 1), (1, 1)] := fun w => by kernel_rfl
theorem ti69 : TI Try.prog 69 5 72 (Go.Value.agg #[(Go.Value.int Go.IntKind.u64 0), (Go.Value.int Go.IntKind.i64 0), (Go.Value.int Go.IntKind.i64 0), (Go.Value.slice none 0 0), (Go.Value.slice none 0 0)]) (Go.TypeDesc.struct #[{ name := "Txn", type := 24, offset := 0, embedded := false, tag := "", pkgPath := "", byteOffset := 0 }, { name := "Level", type := 3, offset := 1, embedded := false, tag := "", pkgPath := "", byteOffset := 8 }, { name := "Mode", type := 3, offset := 2, embedded := false, tag := "", pkgPath := "", byteOffset := 16 }, { name := "Lo", type := 23, offset := 3, embedded := false, tag := "", pkgPath := "", byteOffset := 24 }, { name := "Hi", type := 23, offset := 4, embedded := false, tag := "", pkgPath := "", byteOffset := 48 }]) := ⟨Try.underlying69, Try.t69, by kernel_rfl, rfl, rfl, rfl⟩
theorem pl69 : Places Try.prog #[{ name := "Txn", type := 24, offset := 0, embedded := false, tag := "", pkgPath := "", byteOffset := 0 }, { name := "Level", type := 3, offset := 1, embedded := false, tag := "", pkgPath := "", byteOffset := 8 }, { name := "Mode", type := 3, offset := 2, embedded := false, tag := "", pkgPath := "", byteOffset := 16 }, { name := "Lo", type := 23, offset := 3, embedded := false, tag := "", pkgPath := "", byteOffset := 24 }, { name := "Hi", type := 23, offset := 4, embedded := false, tag := "", pkgPath := "", byteOffset := 48 }] #[(0, 1), (1, 1), (2, 1), (3, 1), (4, 1)] := fun w => by kernel_rfl
theorem ti70 : TI Try.prog 70 5 72 (Go.Value.agg #[(Go.Value.int Go.IntKind.u64 0), (Go.Value.int Go.IntKind.i64 0), (Go.Value.int Go.IntKind.i64 0), (Go.Value.slice none 0 0), (Go.Value.slice none 0 0)]) (Go.TypeDesc.struct #[{ name := "Txn", type := 24, offset := 0, embedded := false, tag := "", pkgPath := "", byteOffset := 0 }, { name := "Level", type := 3, offset := 1, embedded := false, tag := "", pkgPath := "", byteOffset := 8 }, { name := "Mode", type := 3, offset := 2, embedded := false, tag := "", pkgPath := "", byteOffset := 16 }, { name := "Lo", type := 23, offset := 3, embedded := false, tag := "", pkgPath := "", byteOffset := 24 }, { name := "Hi", type := 23, offset := 4, embedded := false, tag := "", pkgPath := "", byteOffset := 48 }]) := ⟨Try.underlying70, Try.t70, by kernel_rfl, rfl, rfl, rfl⟩
theorem pl70 : Places Try.prog #[{ name := "Txn", type := 24, offset := 0, embedded := false, tag := "", pkgPath := "", byteOffset := 0 }, { name := "Level", type := 3, offset := 1, embedded := false, tag := "", pkgPath := "", byteOffset := 8 }, { name := "Mode", type := 3, offset := 2, embedded := false, tag := "", pkgPath := "", byteOffset := 16 }, { name := "Lo", type := 23, offset := 3, embedded := false, tag := "", pkgPath := "", byteOffset := 24 }, { name := "Hi", type := 23, offset := 4, embedded := false, tag := "", pkgPath := "", byteOffset := 48 }] #[(0, 1), (1, 1), (2, 1), (3, 1), (4, 1)] := fun w => by kernel_rfl
theorem ti71 : TI Try.prog 71 1 24 (Go.Value.slice none 0 0) (Go.TypeDesc.slice 24) := ⟨Try.underlying71, Try.t71, by kernel_rfl, rfl, rfl, rfl⟩
theorem ti72 : TI Try.prog 72 1 24 (Go.Value.slice none 0 0) (Go.TypeDesc.slice 89) := ⟨Try.underlying72, Try.t72, by kernel_rfl, rfl, rfl, rfl⟩
theorem ti73 : TI Try.prog 73 1 24 (Go.Value.slice none 0 0) (Go.TypeDesc.slice 120) := ⟨Try.underlying73, Try.t73, by kernel_rfl, rfl, rfl, rfl⟩
theorem ti74 : TI Try.prog 74 1 24 (Go.Value.slice none 0 0) (Go.TypeDesc.slice 3) := ⟨Try.underlying74, Try.t74, by kernel_rfl, rfl, rfl, rfl⟩
theorem ti75 : TI Try.prog 75 5 80 (Go.Value.agg #[(Go.Value.int Go.IntKind.i64 0), (Go.Value.string { data := #[] }), (Go.Value.slice none 0 0), (Go.Value.int Go.IntKind.i64 0), (Go.Value.slice none 0 0)]) (Go.TypeDesc.struct #[{ name := "Id", type := 2, offset := 0, embedded := false, tag := "", pkgPath := "", byteOffset := 0 }, { name := "Name", type := 9, offset := 1, embedded := false, tag := "", pkgPath := "", byteOffset := 8 }, { name := "Cols", type := 73, offset := 2, embedded := false, tag := "", pkgPath := "", byteOffset := 24 }, { name := "Key", type := 3, offset := 3, embedded := false, tag := "", pkgPath := "", byteOffset := 48 }, { name := "Indexes", type := 74, offset := 4, embedded := false, tag := "", pkgPath := "", byteOffset := 56 }]) := ⟨Try.underlying75, Try.t75, by kernel_rfl, rfl, rfl, rfl⟩
theorem pl75 : Places Try.prog #[{ name := "Id", type := 2, offset := 0, embedded := false, tag := "", pkgPath := "", byteOffset := 0 }, { name := "Name", type := 9, offset := 1, embedded := false, tag := "", pkgPath := "", byteOffset := 8 }, { name := "Cols", type := 73, offset := 2, embedded := false, tag := "", pkgPath := "", byteOffset := 24 }, { name := "Key", type := 3, offset := 3, embedded := false, tag := "", pkgPath := "", byteOffset := 48 }, { name := "Indexes", type := 74, offset := 4, embedded := false, tag := "", pkgPath := "", byteOffset := 56 }] #[(0, 1), (1, 1), (2, 1), (3, 1), (4, 1)] := fun w => by kernel_rfl
theorem ti76 : TI Try.prog 76 5 80 (Go.Value.agg #[(Go.Value.int Go.IntKind.i64 0), (Go.Value.string { data := #[] }), (Go.Value.slice none 0 0), (Go.Value.int Go.IntKind.i64 0), (Go.Value.slice none 0 0)]) (Go.TypeDesc.struct #[{ name := "Id", type := 2, offset := 0, embedded := false, tag := "", pkgPath := "", byteOffset := 0 }, { name := "Name", type := 9, offset := 1, embedded := false, tag := "", pkgPath := "", byteOffset := 8 }, { name := "Cols", type := 73, offset := 2, embedded := false, tag := "", pkgPath := "", byteOffset := 24 }, { name := "Key", type := 3, offset := 3, embedded := false, tag := "", pkgPath := "", byteOffset := 48 }, { name := "Indexes", type := 74, offset := 4, embedded := false, tag := "", pkgPath := "", byteOffset := 56 }]) := ⟨Try.underlying76, Try.t76, by kernel_rfl, rfl, rfl, rfl⟩
theorem pl76 : Places Try.prog #[{ name := "Id", type := 2, offset := 0, embedded := false, tag := "", pkgPath := "", byteOffset := 0 }, { name := "Name", type := 9, offset := 1, embedded := false, tag := "", pkgPath := "", byteOffset := 8 }, { name := "Cols", type := 73, offset := 2, embedded := false, tag := "", pkgPath := "", byteOffset := 24 }, { name := "Key", type := 3, offset := 3, embedded := false, tag := "", pkgPath := "", byteOffset := 48 }, { name := "Indexes", type := 74, offset := 4, embedded := false, tag := "", pkgPath := "", byteOffset := 56 }] #[(0, 1), (1, 1), (2, 1), (3, 1), (4, 1)] := fun w => by kernel_rfl
theorem ti77 : TI Try.prog 77 21 320 (Go.Value.agg #[(Go.Value.int Go.IntKind.u64 0), (Go.Value.int Go.IntKind.u64 0), (Go.Value.int Go.IntKind.i64 0), (Go.Value.int Go.IntKind.u64 0), (Go.Value.int Go.IntKind.u64 0), (Go.Value.bool false), (Go.Value.int Go.IntKind.u64 0), (Go.Value.int Go.IntKind.i64 0), (Go.Value.int Go.IntKind.i64 0), (Go.Value.slice none 0 0), (Go.Value.slice none 0 0), (Go.Value.slice none 0 0), (Go.Value.slice none 0 0), (Go.Value.slice none 0 0), (Go.Value.slice none 0 0), (Go.Value.slice none 0 0), (Go.Value.int Go.IntKind.i64 0), (Go.Value.string { data := #[] }), (Go.Value.slice none 0 0), (Go.Value.int Go.IntKind.i64 0), (Go.Value.slice none 0 0)]) (Go.TypeDesc.struct #[{ name := "Client", type := 24, offset := 0, embedded := false, tag := "", pkgPath := "", byteOffset := 0 }, { name := "Seq", type := 24, offset := 1, embedded := false, tag := "", pkgPath := "", byteOffset := 8 }, { name := "Kind", type := 3, offset := 2, embedded := false, tag := "", pkgPath := "", byteOffset := 16 }, { name := "Txn", type := 24, offset := 3, embedded := false, tag := "", pkgPath := "", byteOffset := 24 }, { name := "Ts", type := 24, offset := 4, embedded := false, tag := "", pkgPath := "", byteOffset := 32 }, { name := "Flag", type := 4, offset := 5, embedded := false, tag := "", pkgPath := "", byteOffset := 40 }, { name := "Lock", type := 70, offset := 6, embedded := false, tag := "", pkgPath := "", byteOffset := 48 }, { name := "Lo", type := 23, offset := 11, embedded := false, tag := "", pkgPath := "", byteOffset := 120 }, { name := "Hi", type := 23, offset := 12, embedded := false, tag := "", pkgPath := "", byteOffset := 144 }, { name := "Txns", type := 71, offset := 13, embedded := false, tag := "", pkgPath := "", byteOffset := 168 }, { name := "Writes", type := 72, offset := 14, embedded := false, tag := "", pkgPath := "", byteOffset := 192 }, { name := "Keys", type := 30, offset := 15, embedded := false, tag := "", pkgPath := "", byteOffset := 216 }, { name := "Table", type := 76, offset := 16, embedded := false, tag := "", pkgPath := "", byteOffset := 240 }]) := ⟨Try.underlying77, Try.t77, by kernel_rfl, rfl, rfl, rfl⟩
theorem pl77 : Places Try.prog #[{ name := "Client", type := 24, offset := 0, embedded := false, tag := "", pkgPath := "", byteOffset := 0 }, { name := "Seq", type := 24, offset := 1, embedded := false, tag := "", pkgPath := "", byteOffset := 8 }, { name := "Kind", type := 3, offset := 2, embedded := false, tag := "", pkgPath := "", byteOffset := 16 }, { name := "Txn", type := 24, offset := 3, embedded := false, tag := "", pkgPath := "", byteOffset := 24 }, { name := "Ts", type := 24, offset := 4, embedded := false, tag := "", pkgPath := "", byteOffset := 32 }, { name := "Flag", type := 4, offset := 5, embedded := false, tag := "", pkgPath := "", byteOffset := 40 }, { name := "Lock", type := 70, offset := 6, embedded := false, tag := "", pkgPath := "", byteOffset := 48 }, { name := "Lo", type := 23, offset := 11, embedded := false, tag := "", pkgPath := "", byteOffset := 120 }, { name := "Hi", type := 23, offset := 12, embedded := false, tag := "", pkgPath := "", byteOffset := 144 }, { name := "Txns", type := 71, offset := 13, embedded := false, tag := "", pkgPath := "", byteOffset := 168 }, { name := "Writes", type := 72, offset := 14, embedded := false, tag := "", pkgPath := "", byteOffset := 192 }, { name := "Keys", type := 30, offset := 15, embedded := false, tag := "", pkgPath := "", byteOffset := 216 }, { name := "Table", type := 76, offset := 16, embedded := false, tag := "", pkgPath := "", byteOffset := 240 }] #[(0, 1), (1, 1), (2, 1), (3, 1), (4, 1), (5, 1), (6, 5), (11, 1), (12, 1), (13, 1), (14, 1), (15, 1), (16, 5)] := fun w => by kernel_rfl
theorem ti78 : TI Try.prog 78 21 320 (Go.Value.agg #[(Go.Value.int Go.IntKind.u64 0), (Go.Value.int Go.IntKind.u64 0), (Go.Value.int Go.IntKind.i64 0), (Go.Value.int Go.IntKind.u64 0), (Go.Value.int Go.IntKind.u64 0), (Go.Value.bool false), (Go.Value.int Go.IntKind.u64 0), (Go.Value.int Go.IntKind.i64 0), (Go.Value.int Go.IntKind.i64 0), (Go.Value.slice none 0 0), (Go.Value.slice none 0 0), (Go.Value.slice none 0 0), (Go.Value.slice none 0 0), (Go.Value.slice none 0 0), (Go.Value.slice none 0 0), (Go.Value.slice none 0 0), (Go.Value.int Go.IntKind.i64 0), (Go.Value.string { data := #[] }), (Go.Value.slice none 0 0), (Go.Value.int Go.IntKind.i64 0), (Go.Value.slice none 0 0)]) (Go.TypeDesc.struct #[{ name := "Client", type := 24, offset := 0, embedded := false, tag := "", pkgPath := "", byteOffset := 0 }, { name := "Seq", type := 24, offset := 1, embedded := false, tag := "", pkgPath := "", byteOffset := 8 }, { name := "Kind", type := 3, offset := 2, embedded := false, tag := "", pkgPath := "", byteOffset := 16 }, { name := "Txn", type := 24, offset := 3, embedded := false, tag := "", pkgPath := "", byteOffset := 24 }, { name := "Ts", type := 24, offset := 4, embedded := false, tag := "", pkgPath := "", byteOffset := 32 }, { name := "Flag", type := 4, offset := 5, embedded := false, tag := "", pkgPath := "", byteOffset := 40 }, { name := "Lock", type := 70, offset := 6, embedded := false, tag := "", pkgPath := "", byteOffset := 48 }, { name := "Lo", type := 23, offset := 11, embedded := false, tag := "", pkgPath := "", byteOffset := 120 }, { name := "Hi", type := 23, offset := 12, embedded := false, tag := "", pkgPath := "", byteOffset := 144 }, { name := "Txns", type := 71, offset := 13, embedded := false, tag := "", pkgPath := "", byteOffset := 168 }, { name := "Writes", type := 72, offset := 14, embedded := false, tag := "", pkgPath := "", byteOffset := 192 }, { name := "Keys", type := 30, offset := 15, embedded := false, tag := "", pkgPath := "", byteOffset := 216 }, { name := "Table", type := 76, offset := 16, embedded := false, tag := "", pkgPath := "", byteOffset := 240 }]) := ⟨Try.underlying78, Try.t78, by kernel_rfl, rfl, rfl, rfl⟩
theorem pl78 : Places Try.prog #[{ name := "Client", type := 24, offset := 0, embedded := false, tag := "", pkgPath := "", byteOffset := 0 }, { name := "Seq", type := 24, offset := 1, embedded := false, tag := "", pkgPath := "", byteOffset := 8 }, { name := "Kind", type := 3, offset := 2, embedded := false, tag := "", pkgPath := "", byteOffset := 16 }, { name := "Txn", type := 24, offset := 3, embedded := false, tag := "", pkgPath := "", byteOffset := 24 }, { name := "Ts", type := 24, offset := 4, embedded := false, tag := "", pkgPath := "", byteOffset := 32 }, { name := "Flag", type := 4, offset := 5, embedded := false, tag := "", pkgPath := "", byteOffset := 40 }, { name := "Lock", type := 70, offset := 6, embedded := false, tag := "", pkgPath := "", byteOffset := 48 }, { name := "Lo", type := 23, offset := 11, embedded := false, tag := "", pkgPath := "", byteOffset := 120 }, { name := "Hi", type := 23, offset := 12, embedded := false, tag := "", pkgPath := "", byteOffset := 144 }, { name := "Txns", type := 71, offset := 13, embedded := false, tag := "", pkgPath := "", byteOffset := 168 }, { name := "Writes", type := 72, offset := 14, embedded := false, tag := "", pkgPath := "", byteOffset := 192 }, { name := "Keys", type := 30, offset := 15, embedded := false, tag := "", pkgPath := "", byteOffset := 216 }, { name := "Table", type := 76, offset := 16, embedded := false, tag := "", pkgPath := "", byteOffset := 240 }] #[(0, 1), (1, 1), (2, 1), (3, 1), (4, 1), (5, 1), (6, 5), (11, 1), (12, 1), (13, 1), (14, 1), (15, 1), (16, 5)] := fun w => by kernel_rfl
theorem ti79 : TI Try.prog 79 1 8 Go.Value.nilFunc (Go.TypeDesc.func #[84, 84] #[4] false) := ⟨Try.underlying79, Try.t79, by kernel_rfl, rfl, rfl, rfl⟩
theorem ti80 : TI Try.prog 80 1 8 (Go.Value.int Go.IntKind.i64 0) (Go.TypeDesc.int Go.IntKind.i64) := ⟨Try.underlying80, Try.t80, by kernel_rfl, rfl, rfl, rfl⟩
theorem ti81 : TI Try.prog 81 1 24 (Go.Value.slice none 0 0) (Go.TypeDesc.slice 125) := ⟨Try.underlying81, Try.t81, by kernel_rfl, rfl, rfl, rfl⟩
theorem ti82 : TI Try.prog 82 1 24 (Go.Value.slice none 0 0) (Go.TypeDesc.slice 76) := ⟨Try.underlying82, Try.t82, by kernel_rfl, rfl, rfl, rfl⟩
theorem ti83 : TI Try.prog 83 7 104 (Go.Value.agg #[(Go.Value.int Go.IntKind.i64 0), (Go.Value.int Go.IntKind.u64 0), (Go.Value.int Go.IntKind.u64 0), (Go.Value.bool false), (Go.Value.slice none 0 0), (Go.Value.slice none 0 0), (Go.Value.slice none 0 0)]) (Go.TypeDesc.struct #[{ name := "Err", type := 80, offset := 0, embedded := false, tag := "", pkgPath := "", byteOffset := 0 }, { name := "Txn", type := 24, offset := 1, embedded := false, tag := "", pkgPath := "", byteOffset := 8 }, { name := "Ts", type := 24, offset := 2, embedded := false, tag := "", pkgPath := "", byteOffset := 16 }, { name := "Flag", type := 4, offset := 3, embedded := false, tag := "", pkgPath := "", byteOffset := 24 }, { name := "States", type := 81, offset := 4, embedded := false, tag := "", pkgPath := "", byteOffset := 32 }, { name := "Cells", type := 49, offset := 5, embedded := false, tag := "", pkgPath := "", byteOffset := 56 }, { name := "Tables", type := 82, offset := 6, embedded := false, tag := "", pkgPath := "", byteOffset := 80 }]) := ⟨Try.underlying83, Try.t83, by kernel_rfl, rfl, rfl, rfl⟩
theorem pl83 : Places Try.prog #[{ name := "Err", type := 80, offset := 0, embedded := false, tag := "", pkgPath := "", byteOffset := 0 }, { name := "Txn", type := 24, offset := 1, embedded := false, tag := "", pkgPath := "", byteOffset := 8 }, { name := "Ts", type := 24, offset := 2, embedded := false, tag := "", pkgPath := "", byteOffset := 16 }, { name := "Flag", type := 4, offset := 3, embedded := false, tag := "", pkgPath := "", byteOffset := 24 }, { name := "States", type := 81, offset := 4, embedded := false, tag := "", pkgPath := "", byteOffset := 32 }, { name := "Cells", type := 49, offset := 5, embedded := false, tag := "", pkgPath := "", byteOffset := 56 }, { name := "Tables", type := 82, offset := 6, embedded := false, tag := "", pkgPath := "", byteOffset := 80 }] #[(0, 1), (1, 1), (2, 1), (3, 1), (4, 1), (5, 1), (6, 1)] := fun w => by kernel_rfl
theorem ti84 : TI Try.prog 84 7 104 (Go.Value.agg #[(Go.Value.int Go.IntKind.i64 0), (Go.Value.int Go.IntKind.u64 0), (Go.Value.int Go.IntKind.u64 0), (Go.Value.bool false), (Go.Value.slice none 0 0), (Go.Value.slice none 0 0), (Go.Value.slice none 0 0)]) (Go.TypeDesc.struct #[{ name := "Err", type := 80, offset := 0, embedded := false, tag := "", pkgPath := "", byteOffset := 0 }, { name := "Txn", type := 24, offset := 1, embedded := false, tag := "", pkgPath := "", byteOffset := 8 }, { name := "Ts", type := 24, offset := 2, embedded := false, tag := "", pkgPath := "", byteOffset := 16 }, { name := "Flag", type := 4, offset := 3, embedded := false, tag := "", pkgPath := "", byteOffset := 24 }, { name := "States", type := 81, offset := 4, embedded := false, tag := "", pkgPath := "", byteOffset := 32 }, { name := "Cells", type := 49, offset := 5, embedded := false, tag := "", pkgPath := "", byteOffset := 56 }, { name := "Tables", type := 82, offset := 6, embedded := false, tag := "", pkgPath := "", byteOffset := 80 }]) := ⟨Try.underlying84, Try.t84, by kernel_rfl, rfl, rfl, rfl⟩
theorem pl84 : Places Try.prog #[{ name := "Err", type := 80, offset := 0, embedded := false, tag := "", pkgPath := "", byteOffset := 0 }, { name := "Txn", type := 24, offset := 1, embedded := false, tag := "", pkgPath := "", byteOffset := 8 }, { name := "Ts", type := 24, offset := 2, embedded := false, tag := "", pkgPath := "", byteOffset := 16 }, { name := "Flag", type := 4, offset := 3, embedded := false, tag := "", pkgPath := "", byteOffset := 24 }, { name := "States", type := 81, offset := 4, embedded := false, tag := "", pkgPath := "", byteOffset := 32 }, { name := "Cells", type := 49, offset := 5, embedded := false, tag := "", pkgPath := "", byteOffset := 56 }, { name := "Tables", type := 82, offset := 6, embedded := false, tag := "", pkgPath := "", byteOffset := 80 }] #[(0, 1), (1, 1), (2, 1), (3, 1), (4, 1), (5, 1), (6, 1)] := fun w => by kernel_rfl
theorem ti85 : TI Try.prog 85 1 8 Go.Value.nilFunc (Go.TypeDesc.func #[78] #[84] false) := ⟨Try.underlying85, Try.t85, by kernel_rfl, rfl, rfl, rfl⟩
theorem ti86 : TI Try.prog 86 1 8 Go.Value.nilFunc (Go.TypeDesc.func #[] #[26] false) := ⟨Try.underlying86, Try.t86, by kernel_rfl, rfl, rfl, rfl⟩
theorem ti87 : TI Try.prog 87 1 8 Go.Value.nilFunc (Go.TypeDesc.func #[57, 78] #[4] false) := ⟨Try.underlying87, Try.t87, by kernel_rfl, rfl, rfl, rfl⟩
theorem ti88 : TI Try.prog 88 3 56 (Go.Value.agg #[(Go.Value.slice none 0 0), (Go.Value.bool false), (Go.Value.slice none 0 0)]) (Go.TypeDesc.struct #[{ name := "Key", type := 23, offset := 0, embedded := false, tag := "", pkgPath := "", byteOffset := 0 }, { name := "Dead", type := 4, offset := 1, embedded := false, tag := "", pkgPath := "", byteOffset := 24 }, { name := "Val", type := 23, offset := 2, embedded := false, tag := "", pkgPath := "", byteOffset := 32 }]) := ⟨Try.underlying88, Try.t88, by kernel_rfl, rfl, rfl, rfl⟩
theorem pl88 : Places Try.prog #[{ name := "Key", type := 23, offset := 0, embedded := false, tag := "", pkgPath := "", byteOffset := 0 }, { name := "Dead", type := 4, offset := 1, embedded := false, tag := "", pkgPath := "", byteOffset := 24 }, { name := "Val", type := 23, offset := 2, embedded := false, tag := "", pkgPath := "", byteOffset := 32 }] #[(0, 1), (1, 1), (2, 1)] := fun w => by kernel_rfl
theorem ti89 : TI Try.prog 89 3 56 (Go.Value.agg #[(Go.Value.slice none 0 0), (Go.Value.bool false), (Go.Value.slice none 0 0)]) (Go.TypeDesc.struct #[{ name := "Key", type := 23, offset := 0, embedded := false, tag := "", pkgPath := "", byteOffset := 0 }, { name := "Dead", type := 4, offset := 1, embedded := false, tag := "", pkgPath := "", byteOffset := 24 }, { name := "Val", type := 23, offset := 2, embedded := false, tag := "", pkgPath := "", byteOffset := 32 }]) := ⟨Try.underlying89, Try.t89, by kernel_rfl, rfl, rfl, rfl⟩
theorem pl89 : Places Try.prog #[{ name := "Key", type := 23, offset := 0, embedded := false, tag := "", pkgPath := "", byteOffset := 0 }, { name := "Dead", type := 4, offset := 1, embedded := false, tag := "", pkgPath := "", byteOffset := 24 }, { name := "Val", type := 23, offset := 2, embedded := false, tag := "", pkgPath := "", byteOffset := 32 }] #[(0, 1), (1, 1), (2, 1)] := fun w => by kernel_rfl
theorem ti90 : TI Try.prog 90 1 8 Go.Value.nilFunc (Go.TypeDesc.func #[57, 78, 24] #[4] false) := ⟨Try.underlying90, Try.t90, by kernel_rfl, rfl, rfl, rfl⟩
theorem ti91 : TI Try.prog 91 8 112 (Go.Value.agg #[(Go.Value.int Go.IntKind.i64 0), (Go.Value.slice none 0 0), (Go.Value.int Go.IntKind.u64 0), (Go.Value.int Go.IntKind.u64 0), (Go.Value.bool false), (Go.Value.slice none 0 0), (Go.Value.slice none 0 0), (Go.Value.int Go.IntKind.u64 0)]) (Go.TypeDesc.struct #[{ name := "Kind", type := 3, offset := 0, embedded := false, tag := "", pkgPath := "", byteOffset := 0 }, { name := "Key", type := 23, offset := 1, embedded := false, tag := "", pkgPath := "", byteOffset := 8 }, { name := "V", type := 32, offset := 2, embedded := false, tag := "", pkgPath := "", byteOffset := 32 }, { name := "Ts", type := 24, offset := 7, embedded := false, tag := "", pkgPath := "", byteOffset := 104 }]) := ⟨Try.underlying91, Try.t91, by kernel_rfl, rfl, rfl, rfl⟩
theorem pl91 : Places Try.prog #[{ name := "Kind", type := 3, offset := 0, embedded := false, tag := "", pkgPath := "", byteOffset := 0 }, { name := "Key", type := 23, offset := 1, embedded := false, tag := "", pkgPath := "", byteOffset := 8 }, { name := "V", type := 32, offset := 2, embedded := false, tag := "", pkgPath := "", byteOffset := 32 }, { name := "Ts", type := 24, offset := 7, embedded := false, tag := "", pkgPath := "", byteOffset := 104 }] #[(0, 1), (1, 1), (2, 5), (7, 1)] := fun w => by kernel_rfl
theorem ti92 : TI Try.prog 92 8 112 (Go.Value.agg #[(Go.Value.int Go.IntKind.i64 0), (Go.Value.slice none 0 0), (Go.Value.int Go.IntKind.u64 0), (Go.Value.int Go.IntKind.u64 0), (Go.Value.bool false), (Go.Value.slice none 0 0), (Go.Value.slice none 0 0), (Go.Value.int Go.IntKind.u64 0)]) (Go.TypeDesc.struct #[{ name := "Kind", type := 3, offset := 0, embedded := false, tag := "", pkgPath := "", byteOffset := 0 }, { name := "Key", type := 23, offset := 1, embedded := false, tag := "", pkgPath := "", byteOffset := 8 }, { name := "V", type := 32, offset := 2, embedded := false, tag := "", pkgPath := "", byteOffset := 32 }, { name := "Ts", type := 24, offset := 7, embedded := false, tag := "", pkgPath := "", byteOffset := 104 }]) := ⟨Try.underlying92, Try.t92, by kernel_rfl, rfl, rfl, rfl⟩
theorem pl92 : Places Try.prog #[{ name := "Kind", type := 3, offset := 0, embedded := false, tag := "", pkgPath := "", byteOffset := 0 }, { name := "Key", type := 23, offset := 1, embedded := false, tag := "", pkgPath := "", byteOffset := 8 }, { name := "V", type := 32, offset := 2, embedded := false, tag := "", pkgPath := "", byteOffset := 32 }, { name := "Ts", type := 24, offset := 7, embedded := false, tag := "", pkgPath := "", byteOffset := 104 }] #[(0, 1), (1, 1), (2, 5), (7, 1)] := fun w => by kernel_rfl
theorem ti93 : TI Try.prog 93 1 8 Go.Value.nilFunc (Go.TypeDesc.func #[23, 32] #[80] false) := ⟨Try.underlying93, Try.t93, by kernel_rfl, rfl, rfl, rfl⟩
theorem ti94 : TI Try.prog 94 1 8 Go.Value.nilFunc (Go.TypeDesc.func #[23, 32] #[3] false) := ⟨Try.underlying94, Try.t94, by kernel_rfl, rfl, rfl, rfl⟩
theorem ti95 : TI Try.prog 95 1 8 (Go.Value.map none) (Go.TypeDesc.map 9 53) := ⟨Try.underlying95, Try.t95, by kernel_rfl, rfl, rfl, rfl⟩
theorem ti96 : TI Try.prog 96 1 8 (Go.Value.map none) (Go.TypeDesc.map 9 32) := ⟨Try.underlying96, Try.t96, by kernel_rfl, rfl, rfl, rfl⟩
theorem ti97 : TI Try.prog 97 2 16 (Go.Value.agg #[(Go.Value.map none), (Go.Value.map none)]) (Go.TypeDesc.struct #[{ name := "versions", type := 95, offset := 0, embedded := false, tag := "", pkgPath := "plenum/mvcc", byteOffset := 0 }, { name := "intents", type := 96, offset := 1, embedded := false, tag := "", pkgPath := "plenum/mvcc", byteOffset := 8 }]) := ⟨Try.underlying97, Try.t97, by kernel_rfl, rfl, rfl, rfl⟩
theorem pl97 : Places Try.prog #[{ name := "versions", type := 95, offset := 0, embedded := false, tag := "", pkgPath := "plenum/mvcc", byteOffset := 0 }, { name := "intents", type := 96, offset := 1, embedded := false, tag := "", pkgPath := "plenum/mvcc", byteOffset := 8 }] #[(0, 1), (1, 1)] := fun w => by kernel_rfl
theorem ti98 : TI Try.prog 98 2 16 (Go.Value.agg #[(Go.Value.map none), (Go.Value.map none)]) (Go.TypeDesc.struct #[{ name := "versions", type := 95, offset := 0, embedded := false, tag := "", pkgPath := "plenum/mvcc", byteOffset := 0 }, { name := "intents", type := 96, offset := 1, embedded := false, tag := "", pkgPath := "plenum/mvcc", byteOffset := 8 }]) := ⟨Try.underlying98, Try.t98, by kernel_rfl, rfl, rfl, rfl⟩
theorem pl98 : Places Try.prog #[{ name := "versions", type := 95, offset := 0, embedded := false, tag := "", pkgPath := "plenum/mvcc", byteOffset := 0 }, { name := "intents", type := 96, offset := 1, embedded := false, tag := "", pkgPath := "plenum/mvcc", byteOffset := 8 }] #[(0, 1), (1, 1)] := fun w => by kernel_rfl
theorem ti99 : TI Try.prog 99 1 0 (Go.Value.tuple #[(Go.Value.int Go.IntKind.i64 0), (Go.Value.bool false)]) (Go.TypeDesc.tuple #[3, 4]) := ⟨Try.underlying99, Try.t99, by kernel_rfl, rfl, rfl, rfl⟩
theorem ti100 : TI Try.prog 100 1 8 Go.Value.nilFunc (Go.TypeDesc.func #[53, 24, 101] #[3, 4] false) := ⟨Try.underlying100, Try.t100, by kernel_rfl, rfl, rfl, rfl⟩
theorem ti101 : TI Try.prog 101 1 8 Go.Value.nilFunc (Go.TypeDesc.func #[32, 24] #[3] false) := ⟨Try.underlying101, Try.t101, by kernel_rfl, rfl, rfl, rfl⟩
theorem ti102 : TI Try.prog 102 1 8 Go.Value.nilFunc (Go.TypeDesc.func #[32] #[32] false) := ⟨Try.underlying102, Try.t102, by kernel_rfl, rfl, rfl, rfl⟩
theorem ti103 : TI Try.prog 103 1 8 Go.Value.nilFunc (Go.TypeDesc.func #[23] #[3, 4] false) := ⟨Try.underlying103, Try.t103, by kernel_rfl, rfl, rfl, rfl⟩
theorem ti104 : TI Try.prog 104 1 24 (Go.Value.slice none 0 0) (Go.TypeDesc.slice 9) := ⟨Try.underlying104, Try.t104, by kernel_rfl, rfl, rfl, rfl⟩
theorem ti105 : TI Try.prog 105 1 8 Go.Value.nilFunc (Go.TypeDesc.func #[107] #[104] false) := ⟨Try.underlying105, Try.t105, by kernel_rfl, rfl, rfl, rfl⟩
theorem ti106 : TI Try.prog 106 1 8 Go.Value.nilFunc (Go.TypeDesc.func #[138] #[] false) := ⟨Try.underlying106, Try.t106, by kernel_rfl, rfl, rfl, rfl⟩
theorem ti107 : TI Try.prog 107 1 8 Go.Value.nilFunc (Go.TypeDesc.func #[138] #[] false) := ⟨Try.underlying107, Try.t107, by kernel_rfl, rfl, rfl, rfl⟩
theorem ti108 : TI Try.prog 108 1 8 Go.Value.nilFunc (Go.TypeDesc.func #[96] #[107] false) := ⟨Try.underlying108, Try.t108, by kernel_rfl, rfl, rfl, rfl⟩
theorem ti109 : TI Try.prog 109 1 8 Go.Value.nilFunc (Go.TypeDesc.func #[23] #[4] false) := ⟨Try.underlying109, Try.t109, by kernel_rfl, rfl, rfl, rfl⟩
theorem ti110 : TI Try.prog 110 1 8 (Go.Value.map none) (Go.TypeDesc.map 9 4) := ⟨Try.underlying110, Try.t110, by kernel_rfl, rfl, rfl, rfl⟩
theorem ti111 : TI Try.prog 111 1 8 Go.Value.nilFunc (Go.TypeDesc.func #[110] #[107] false) := ⟨Try.underlying111, Try.t111, by kernel_rfl, rfl, rfl, rfl⟩
theorem ti112 : TI Try.prog 112 1 8 Go.Value.nilFunc (Go.TypeDesc.func #[53] #[53] false) := ⟨Try.underlying112, Try.t112, by kernel_rfl, rfl, rfl, rfl⟩
theorem ti113 : TI Try.prog 113 1 8 Go.Value.nilFunc (Go.TypeDesc.func #[53, 3, 53] #[53] true) := ⟨Try.underlying113, Try.t113, by kernel_rfl, rfl, rfl, rfl⟩
theorem ti114 : TI Try.prog 114 1 8 Go.Value.nilFunc (Go.TypeDesc.func #[23, 23, 23] #[4] false) := ⟨Try.underlying114, Try.t114, by kernel_rfl, rfl, rfl, rfl⟩
theorem ti115 : TI Try.prog 115 1 8 Go.Value.nilFunc (Go.TypeDesc.func #[30, 23] #[3] false) := ⟨Try.underlying115, Try.t115, by kernel_rfl, rfl, rfl, rfl⟩
theorem ti116 : TI Try.prog 116 1 8 Go.Value.nilFunc (Go.TypeDesc.func #[30, 118] #[74] false) := ⟨Try.underlying116, Try.t116, by kernel_rfl, rfl, rfl, rfl⟩
theorem ti117 : TI Try.prog 117 2 48 (Go.Value.agg #[(Go.Value.slice none 0 0), (Go.Value.slice none 0 0)]) (Go.TypeDesc.struct #[{ name := "Lo", type := 23, offset := 0, embedded := false, tag := "", pkgPath := "", byteOffset := 0 }, { name := "Hi", type := 23, offset := 1, embedded := false, tag := "", pkgPath := "", byteOffset := 24 }]) := ⟨Try.underlying117, Try.t117, by kernel_rfl, rfl, rfl, rfl⟩
theorem pl117 : Places Try.prog #[{ name := "Lo", type := 23, offset := 0, embedded := false, tag := "", pkgPath := "", byteOffset := 0 }, { name := "Hi", type := 23, offset := 1, embedded := false, tag := "", pkgPath := "", byteOffset := 24 }] #[(0, 1), (1, 1)] := fun w => by kernel_rfl
theorem ti118 : TI Try.prog 118 2 48 (Go.Value.agg #[(Go.Value.slice none 0 0), (Go.Value.slice none 0 0)]) (Go.TypeDesc.struct #[{ name := "Lo", type := 23, offset := 0, embedded := false, tag := "", pkgPath := "", byteOffset := 0 }, { name := "Hi", type := 23, offset := 1, embedded := false, tag := "", pkgPath := "", byteOffset := 24 }]) := ⟨Try.underlying118, Try.t118, by kernel_rfl, rfl, rfl, rfl⟩
theorem pl118 : Places Try.prog #[{ name := "Lo", type := 23, offset := 0, embedded := false, tag := "", pkgPath := "", byteOffset := 0 }, { name := "Hi", type := 23, offset := 1, embedded := false, tag := "", pkgPath := "", byteOffset := 24 }] #[(0, 1), (1, 1)] := fun w => by kernel_rfl
theorem ti119 : TI Try.prog 119 3 32 (Go.Value.agg #[(Go.Value.string { data := #[] }), (Go.Value.int Go.IntKind.i64 0), (Go.Value.bool false)]) (Go.TypeDesc.struct #[{ name := "Name", type := 9, offset := 0, embedded := false, tag := "", pkgPath := "", byteOffset := 0 }, { name := "Kind", type := 3, offset := 1, embedded := false, tag := "", pkgPath := "", byteOffset := 16 }, { name := "NotNull", type := 4, offset := 2, embedded := false, tag := "", pkgPath := "", byteOffset := 24 }]) := ⟨Try.underlying119, Try.t119, by kernel_rfl, rfl, rfl, rfl⟩
theorem pl119 : Places Try.prog #[{ name := "Name", type := 9, offset := 0, embedded := false, tag := "", pkgPath := "", byteOffset := 0 }, { name := "Kind", type := 3, offset := 1, embedded := false, tag := "", pkgPath := "", byteOffset := 16 }, { name := "NotNull", type := 4, offset := 2, embedded := false, tag := "", pkgPath := "", byteOffset := 24 }] #[(0, 1), (1, 1), (2, 1)] := fun w => by kernel_rfl
theorem ti120 : TI Try.prog 120 3 32 (Go.Value.agg #[(Go.Value.string { data := #[] }), (Go.Value.int Go.IntKind.i64 0), (Go.Value.bool false)]) (Go.TypeDesc.struct #[{ name := "Name", type := 9, offset := 0, embedded := false, tag := "", pkgPath := "", byteOffset := 0 }, { name := "Kind", type := 3, offset := 1, embedded := false, tag := "", pkgPath := "", byteOffset := 16 }, { name := "NotNull", type := 4, offset := 2, embedded := false, tag := "", pkgPath := "", byteOffset := 24 }]) := ⟨Try.underlying120, Try.t120, by kernel_rfl, rfl, rfl, rfl⟩
theorem pl120 : Places Try.prog #[{ name := "Name", type := 9, offset := 0, embedded := false, tag := "", pkgPath := "", byteOffset := 0 }, { name := "Kind", type := 3, offset := 1, embedded := false, tag := "", pkgPath := "", byteOffset := 16 }, { name := "NotNull", type := 4, offset := 2, embedded := false, tag := "", pkgPath := "", byteOffset := 24 }] #[(0, 1), (1, 1), (2, 1)] := fun w => by kernel_rfl
theorem ti121 : TI Try.prog 121 1 8 (Go.Value.map none) (Go.TypeDesc.map 24 128) := ⟨Try.underlying121, Try.t121, by kernel_rfl, rfl, rfl, rfl⟩
theorem ti122 : TI Try.prog 122 2 16 (Go.Value.agg #[(Go.Value.pointer none), (Go.Value.map none)]) (Go.TypeDesc.struct #[{ name := "s", type := 26, offset := 0, embedded := false, tag := "", pkgPath := "plenum/shard", byteOffset := 0 }, { name := "last", type := 121, offset := 1, embedded := false, tag := "", pkgPath := "plenum/shard", byteOffset := 8 }]) := ⟨Try.underlying122, Try.t122, by kernel_rfl, rfl, rfl, rfl⟩
theorem pl122 : Places Try.prog #[{ name := "s", type := 26, offset := 0, embedded := false, tag := "", pkgPath := "plenum/shard", byteOffset := 0 }, { name := "last", type := 121, offset := 1, embedded := false, tag := "", pkgPath := "plenum/shard", byteOffset := 8 }] #[(0, 1), (1, 1)] := fun w => by kernel_rfl
theorem ti123 : TI Try.prog 123 2 16 (Go.Value.agg #[(Go.Value.pointer none), (Go.Value.map none)]) (Go.TypeDesc.struct #[{ name := "s", type := 26, offset := 0, embedded := false, tag := "", pkgPath := "plenum/shard", byteOffset := 0 }, { name := "last", type := 121, offset := 1, embedded := false, tag := "", pkgPath := "plenum/shard", byteOffset := 8 }]) := ⟨Try.underlying123, Try.t123, by kernel_rfl, rfl, rfl, rfl⟩
theorem pl123 : Places Try.prog #[{ name := "s", type := 26, offset := 0, embedded := false, tag := "", pkgPath := "plenum/shard", byteOffset := 0 }, { name := "last", type := 121, offset := 1, embedded := false, tag := "", pkgPath := "plenum/shard", byteOffset := 8 }] #[(0, 1), (1, 1)] := fun w => by kernel_rfl
theorem ti124 : TI Try.prog 124 3 24 (Go.Value.agg #[(Go.Value.int Go.IntKind.u64 0), (Go.Value.int Go.IntKind.i64 0), (Go.Value.int Go.IntKind.u64 0)]) (Go.TypeDesc.struct #[{ name := "Txn", type := 24, offset := 0, embedded := false, tag := "", pkgPath := "", byteOffset := 0 }, { name := "State", type := 3, offset := 1, embedded := false, tag := "", pkgPath := "", byteOffset := 8 }, { name := "Ts", type := 24, offset := 2, embedded := false, tag := "", pkgPath := "", byteOffset := 16 }]) := ⟨Try.underlying124, Try.t124, by kernel_rfl, rfl, rfl, rfl⟩
theorem pl124 : Places Try.prog #[{ name := "Txn", type := 24, offset := 0, embedded := false, tag := "", pkgPath := "", byteOffset := 0 }, { name := "State", type := 3, offset := 1, embedded := false, tag := "", pkgPath := "", byteOffset := 8 }, { name := "Ts", type := 24, offset := 2, embedded := false, tag := "", pkgPath := "", byteOffset := 16 }] #[(0, 1), (1, 1), (2, 1)] := fun w => by kernel_rfl
theorem ti125 : TI Try.prog 125 3 24 (Go.Value.agg #[(Go.Value.int Go.IntKind.u64 0), (Go.Value.int Go.IntKind.i64 0), (Go.Value.int Go.IntKind.u64 0)]) (Go.TypeDesc.struct #[{ name := "Txn", type := 24, offset := 0, embedded := false, tag := "", pkgPath := "", byteOffset := 0 }, { name := "State", type := 3, offset := 1, embedded := false, tag := "", pkgPath := "", byteOffset := 8 }, { name := "Ts", type := 24, offset := 2, embedded := false, tag := "", pkgPath := "", byteOffset := 16 }]) := ⟨Try.underlying125, Try.t125, by kernel_rfl, rfl, rfl, rfl⟩
theorem pl125 : Places Try.prog #[{ name := "Txn", type := 24, offset := 0, embedded := false, tag := "", pkgPath := "", byteOffset := 0 }, { name := "State", type := 3, offset := 1, embedded := false, tag := "", pkgPath := "", byteOffset := 8 }, { name := "Ts", type := 24, offset := 2, embedded := false, tag := "", pkgPath := "", byteOffset := 16 }] #[(0, 1), (1, 1), (2, 1)] := fun w => by kernel_rfl
theorem ti126 : TI Try.prog 126 1 8 Go.Value.nilFunc (Go.TypeDesc.func #[82, 82] #[4] false) := ⟨Try.underlying126, Try.t126, by kernel_rfl, rfl, rfl, rfl⟩
theorem ti127 : TI Try.prog 127 8 112 (Go.Value.agg #[(Go.Value.int Go.IntKind.u64 0), (Go.Value.int Go.IntKind.i64 0), (Go.Value.int Go.IntKind.u64 0), (Go.Value.int Go.IntKind.u64 0), (Go.Value.bool false), (Go.Value.slice none 0 0), (Go.Value.slice none 0 0), (Go.Value.slice none 0 0)]) (Go.TypeDesc.struct #[{ name := "seq", type := 24, offset := 0, embedded := false, tag := "", pkgPath := "plenum/shard", byteOffset := 0 }, { name := "r", type := 84, offset := 1, embedded := false, tag := "", pkgPath := "plenum/shard", byteOffset := 8 }]) := ⟨Try.underlying127, Try.t127, by kernel_rfl, rfl, rfl, rfl⟩
theorem pl127 : Places Try.prog #[{ name := "seq", type := 24, offset := 0, embedded := false, tag := "", pkgPath := "plenum/shard", byteOffset := 0 }, { name := "r", type := 84, offset := 1, embedded := false, tag := "", pkgPath := "plenum/shard", byteOffset := 8 }] #[(0, 1), (1, 7)] := fun w => by kernel_rfl
theorem ti128 : TI Try.prog 128 8 112 (Go.Value.agg #[(Go.Value.int Go.IntKind.u64 0), (Go.Value.int Go.IntKind.i64 0), (Go.Value.int Go.IntKind.u64 0), (Go.Value.int Go.IntKind.u64 0), (Go.Value.bool false), (Go.Value.slice none 0 0), (Go.Value.slice none 0 0), (Go.Value.slice none 0 0)]) (Go.TypeDesc.struct #[{ name := "seq", type := 24, offset := 0, embedded := false, tag := "", pkgPath := "plenum/shard", byteOffset := 0 }, { name := "r", type := 84, offset := 1, embedded := false, tag := "", pkgPath := "plenum/shard", byteOffset := 8 }]) := ⟨Try.underlying128, Try.t128, by kernel_rfl, rfl, rfl, rfl⟩
theorem pl128 : Places Try.prog #[{ name := "seq", type := 24, offset := 0, embedded := false, tag := "", pkgPath := "plenum/shard", byteOffset := 0 }, { name := "r", type := 84, offset := 1, embedded := false, tag := "", pkgPath := "plenum/shard", byteOffset := 8 }] #[(0, 1), (1, 7)] := fun w => by kernel_rfl
theorem ti129 : TI Try.prog 129 1 0 (Go.Value.tuple #[(Go.Value.agg #[(Go.Value.int Go.IntKind.u64 0), (Go.Value.int Go.IntKind.i64 0), (Go.Value.int Go.IntKind.u64 0), (Go.Value.int Go.IntKind.u64 0), (Go.Value.bool false), (Go.Value.slice none 0 0), (Go.Value.slice none 0 0), (Go.Value.slice none 0 0)]), (Go.Value.bool false)]) (Go.TypeDesc.tuple #[128, 4]) := ⟨Try.underlying129, Try.t129, by kernel_rfl, rfl, rfl, rfl⟩
theorem ti130 : TI Try.prog 130 1 0 (Go.Value.tuple #[(Go.Value.agg #[(Go.Value.int Go.IntKind.i64 0), (Go.Value.int Go.IntKind.u64 0), (Go.Value.int Go.IntKind.u64 0), (Go.Value.bool false), (Go.Value.slice none 0 0), (Go.Value.slice none 0 0), (Go.Value.slice none 0 0)]), (Go.Value.bool false)]) (Go.TypeDesc.tuple #[84, 4]) := ⟨Try.underlying130, Try.t130, by kernel_rfl, rfl, rfl, rfl⟩
theorem ti131 : TI Try.prog 131 1 8 Go.Value.nilFunc (Go.TypeDesc.func #[78] #[84, 4] false) := ⟨Try.underlying131, Try.t131, by kernel_rfl, rfl, rfl, rfl⟩
theorem ti132 : TI Try.prog 132 1 8 Go.Value.nilFunc (Go.TypeDesc.func #[78, 84] #[] false) := ⟨Try.underlying132, Try.t132, by kernel_rfl, rfl, rfl, rfl⟩
theorem ti133 : TI Try.prog 133 1 8 Go.Value.nilFunc (Go.TypeDesc.func #[23] #[3] false) := ⟨Try.underlying133, Try.t133, by kernel_rfl, rfl, rfl, rfl⟩
theorem ti134 : TI Try.prog 134 1 8 (Go.Value.int Go.IntKind.u64 0) (Go.TypeDesc.int Go.IntKind.u64) := ⟨Try.underlying134, Try.t134, by kernel_rfl, rfl, rfl, rfl⟩
theorem ti135 : TI Try.prog 135 1 8 Go.Value.nilFunc (Go.TypeDesc.func #[23] #[23] false) := ⟨Try.underlying135, Try.t135, by kernel_rfl, rfl, rfl, rfl⟩
theorem ti136 : TI Try.prog 136 1 8 Go.Value.nilFunc (Go.TypeDesc.func #[30] #[30] false) := ⟨Try.underlying136, Try.t136, by kernel_rfl, rfl, rfl, rfl⟩
theorem ti137 : TI Try.prog 137 1 8 Go.Value.nilFunc (Go.TypeDesc.func #[104] #[] false) := ⟨Try.underlying137, Try.t137, by kernel_rfl, rfl, rfl, rfl⟩
theorem ti138 : TI Try.prog 138 1 8 Go.Value.nilFunc (Go.TypeDesc.func #[9] #[4] false) := ⟨Try.underlying138, Try.t138, by kernel_rfl, rfl, rfl, rfl⟩
theorem ti139 : TI Try.prog 139 1 8 Go.Value.nilFunc (Go.TypeDesc.func #[53, 53] #[4] false) := ⟨Try.underlying139, Try.t139, by kernel_rfl, rfl, rfl, rfl⟩
theorem ti140 : TI Try.prog 140 1 8 Go.Value.nilFunc (Go.TypeDesc.func #[53, 3] #[] false) := ⟨Try.underlying140, Try.t140, by kernel_rfl, rfl, rfl, rfl⟩
theorem ti141 : TI Try.prog 141 1 8 Go.Value.nilFunc (Go.TypeDesc.func #[23, 23] #[3] false) := ⟨Try.underlying141, Try.t141, by kernel_rfl, rfl, rfl, rfl⟩
theorem ti142 : TI Try.prog 142 1 8 Go.Value.nilFunc (Go.TypeDesc.func #[78] #[80] false) := ⟨Try.underlying142, Try.t142, by kernel_rfl, rfl, rfl, rfl⟩
theorem ti143 : TI Try.prog 143 1 8 (Go.Value.pointer none) (Go.TypeDesc.pointer 64) := ⟨Try.underlying143, Try.t143, by kernel_rfl, rfl, rfl, rfl⟩
theorem ti144 : TI Try.prog 144 9 120 (Go.Value.agg #[(Go.Value.int Go.IntKind.u64 0), (Go.Value.int Go.IntKind.u64 0), (Go.Value.int Go.IntKind.i64 0), (Go.Value.int Go.IntKind.u64 0), (Go.Value.int Go.IntKind.u64 0), (Go.Value.bool false), (Go.Value.slice none 0 0), (Go.Value.slice none 0 0), (Go.Value.slice none 0 0)]) (Go.TypeDesc.struct #[{ name := "client", type := 24, offset := 0, embedded := false, tag := "", pkgPath := "plenum/plenumref15", byteOffset := 0 }, { name := "seq", type := 24, offset := 1, embedded := false, tag := "", pkgPath := "plenum/plenumref15", byteOffset := 8 }, { name := "r", type := 84, offset := 2, embedded := false, tag := "", pkgPath := "plenum/plenumref15", byteOffset := 16 }]) := ⟨Try.underlying144, Try.t144, by kernel_rfl, rfl, rfl, rfl⟩
theorem pl144 : Places Try.prog #[{ name := "client", type := 24, offset := 0, embedded := false, tag := "", pkgPath := "plenum/plenumref15", byteOffset := 0 }, { name := "seq", type := 24, offset := 1, embedded := false, tag := "", pkgPath := "plenum/plenumref15", byteOffset := 8 }, { name := "r", type := 84, offset := 2, embedded := false, tag := "", pkgPath := "plenum/plenumref15", byteOffset := 16 }] #[(0, 1), (1, 1), (2, 7)] := fun w => by kernel_rfl
theorem ti145 : TI Try.prog 145 9 120 (Go.Value.agg #[(Go.Value.int Go.IntKind.u64 0), (Go.Value.int Go.IntKind.u64 0), (Go.Value.int Go.IntKind.i64 0), (Go.Value.int Go.IntKind.u64 0), (Go.Value.int Go.IntKind.u64 0), (Go.Value.bool false), (Go.Value.slice none 0 0), (Go.Value.slice none 0 0), (Go.Value.slice none 0 0)]) (Go.TypeDesc.struct #[{ name := "client", type := 24, offset := 0, embedded := false, tag := "", pkgPath := "plenum/plenumref15", byteOffset := 0 }, { name := "seq", type := 24, offset := 1, embedded := false, tag := "", pkgPath := "plenum/plenumref15", byteOffset := 8 }, { name := "r", type := 84, offset := 2, embedded := false, tag := "", pkgPath := "plenum/plenumref15", byteOffset := 16 }]) := ⟨Try.underlying145, Try.t145, by kernel_rfl, rfl, rfl, rfl⟩
theorem pl145 : Places Try.prog #[{ name := "client", type := 24, offset := 0, embedded := false, tag := "", pkgPath := "plenum/plenumref15", byteOffset := 0 }, { name := "seq", type := 24, offset := 1, embedded := false, tag := "", pkgPath := "plenum/plenumref15", byteOffset := 8 }, { name := "r", type := 84, offset := 2, embedded := false, tag := "", pkgPath := "plenum/plenumref15", byteOffset := 16 }] #[(0, 1), (1, 1), (2, 7)] := fun w => by kernel_rfl
theorem ti146 : TI Try.prog 146 1 8 Go.Value.nilFunc (Go.TypeDesc.func #[78] #[3] false) := ⟨Try.underlying146, Try.t146, by kernel_rfl, rfl, rfl, rfl⟩
theorem ti147 : TI Try.prog 147 1 8 Go.Value.nilFunc (Go.TypeDesc.func #[23] #[55] false) := ⟨Try.underlying147, Try.t147, by kernel_rfl, rfl, rfl, rfl⟩
theorem ti148 : TI Try.prog 148 1 8 Go.Value.nilFunc (Go.TypeDesc.func #[24] #[4] false) := ⟨Try.underlying148, Try.t148, by kernel_rfl, rfl, rfl, rfl⟩
theorem ti149 : TI Try.prog 149 1 8 Go.Value.nilFunc (Go.TypeDesc.func #[104, 107] #[104] false) := ⟨Try.underlying149, Try.t149, by kernel_rfl, rfl, rfl, rfl⟩
theorem ti150 : TI Try.prog 150 1 8 Go.Value.nilFunc (Go.TypeDesc.func #[104, 3, 3, 3] #[] false) := ⟨Try.underlying150, Try.t150, by kernel_rfl, rfl, rfl, rfl⟩
theorem ti151 : TI Try.prog 151 1 8 Go.Value.nilFunc (Go.TypeDesc.func #[134] #[3] false) := ⟨Try.underlying151, Try.t151, by kernel_rfl, rfl, rfl, rfl⟩
theorem ti152 : TI Try.prog 152 1 8 Go.Value.nilFunc (Go.TypeDesc.func #[104, 3, 3] #[] false) := ⟨Try.underlying152, Try.t152, by kernel_rfl, rfl, rfl, rfl⟩
theorem ti153 : TI Try.prog 153 1 8 (Go.Value.int Go.IntKind.i64 0) (Go.TypeDesc.int Go.IntKind.i64) := ⟨Try.underlying153, Try.t153, by kernel_rfl, rfl, rfl, rfl⟩
theorem ti154 : TI Try.prog 154 1 0 (Go.Value.tuple #[(Go.Value.int Go.IntKind.i64 0), (Go.Value.int Go.IntKind.i64 0)]) (Go.TypeDesc.tuple #[3, 153]) := ⟨Try.underlying154, Try.t154, by kernel_rfl, rfl, rfl, rfl⟩
theorem ti155 : TI Try.prog 155 1 8 Go.Value.nilFunc (Go.TypeDesc.func #[104, 3, 3] #[3, 153] false) := ⟨Try.underlying155, Try.t155, by kernel_rfl, rfl, rfl, rfl⟩
theorem ti156 : TI Try.prog 156 1 8 Go.Value.nilFunc (Go.TypeDesc.func #[104, 3, 3] #[4] false) := ⟨Try.underlying156, Try.t156, by kernel_rfl, rfl, rfl, rfl⟩
theorem ti157 : TI Try.prog 157 1 8 Go.Value.nilFunc (Go.TypeDesc.func #[9, 9] #[4] false) := ⟨Try.underlying157, Try.t157, by kernel_rfl, rfl, rfl, rfl⟩
theorem ti158 : TI Try.prog 158 1 8 Go.Value.nilFunc (Go.TypeDesc.func #[104, 3, 3, 3] #[3] false) := ⟨Try.underlying158, Try.t158, by kernel_rfl, rfl, rfl, rfl⟩
theorem ti159 : TI Try.prog 159 1 8 Go.Value.nilFunc (Go.TypeDesc.func #[104, 3, 3, 3] #[3, 4] false) := ⟨Try.underlying159, Try.t159, by kernel_rfl, rfl, rfl, rfl⟩
theorem en3 : En Try.prog 3 := En.of Try.func3 (by kernel_rfl) rfl
theorem en4 : En Try.prog 4 := En.of Try.func4 (by kernel_rfl) rfl
theorem en5 : En Try.prog 5 := En.of Try.func5 (by kernel_rfl) rfl
theorem en6 : En Try.prog 6 := En.of Try.func6 (by kernel_rfl) rfl
theorem en7 : En Try.prog 7 := En.of Try.func7 (by kernel_rfl) rfl
theorem en8 : En Try.prog 8 := En.of Try.func8 (by kernel_rfl) rfl
theorem en9 : En Try.prog 9 := En.of Try.func9 (by kernel_rfl) rfl
theorem en10 : En Try.prog 10 := En.of Try.func10 (by kernel_rfl) rfl
theorem en11 : En Try.prog 11 := En.of Try.func11 (by kernel_rfl) rfl
theorem en12 : En Try.prog 12 := En.of Try.func12 (by kernel_rfl) rfl
theorem en13 : En Try.prog 13 := En.of Try.func13 (by kernel_rfl) rfl
theorem en14 : En Try.prog 14 := En.of Try.func14 (by kernel_rfl) rfl
theorem en15 : En Try.prog 15 := En.of Try.func15 (by kernel_rfl) rfl
theorem en16 : En Try.prog 16 := En.of Try.func16 (by kernel_rfl) rfl
theorem en17 : En Try.prog 17 := En.of Try.func17 (by kernel_rfl) rfl
theorem en18 : En Try.prog 18 := En.of Try.func18 (by kernel_rfl) rfl
theorem en19 : En Try.prog 19 := En.of Try.func19 (by kernel_rfl) rfl
theorem en20 : En Try.prog 20 := En.of Try.func20 (by kernel_rfl) rfl
theorem en21 : En Try.prog 21 := En.of Try.func21 (by kernel_rfl) rfl
theorem en22 : En Try.prog 22 := En.of Try.func22 (by kernel_rfl) rfl
theorem en23 : En Try.prog 23 := En.of Try.func23 (by kernel_rfl) rfl
theorem en24 : En Try.prog 24 := En.of Try.func24 (by kernel_rfl) rfl
theorem en25 : En Try.prog 25 := En.of Try.func25 (by kernel_rfl) rfl
theorem en26 : En Try.prog 26 := En.of Try.func26 (by kernel_rfl) rfl
theorem en27 : En Try.prog 27 := En.of Try.func27 (by kernel_rfl) rfl
theorem en28 : En Try.prog 28 := En.of Try.func28 (by kernel_rfl) rfl
theorem en29 : En Try.prog 29 := En.of Try.func29 (by kernel_rfl) rfl
theorem en30 : En Try.prog 30 := En.of Try.func30 (by kernel_rfl) rfl
theorem en31 : En Try.prog 31 := En.of Try.func31 (by kernel_rfl) rfl
theorem en32 : En Try.prog 32 := En.of Try.func32 (by kernel_rfl) rfl
theorem en33 : En Try.prog 33 := En.of Try.func33 (by kernel_rfl) rfl
theorem en34 : En Try.prog 34 := En.of Try.func34 (by kernel_rfl) rfl
theorem en35 : En Try.prog 35 := En.of Try.func35 (by kernel_rfl) rfl
theorem en36 : En Try.prog 36 := En.of Try.func36 (by kernel_rfl) rfl
theorem en37 : En Try.prog 37 := En.of Try.func37 (by kernel_rfl) rfl
theorem en38 : En Try.prog 38 := En.of Try.func38 (by kernel_rfl) rfl
theorem en39 : En Try.prog 39 := En.of Try.func39 (by kernel_rfl) rfl
theorem en40 : En Try.prog 40 := En.of Try.func40 (by kernel_rfl) rfl
theorem en41 : En Try.prog 41 := En.of Try.func41 (by kernel_rfl) rfl
theorem en42 : En Try.prog 42 := En.of Try.func42 (by kernel_rfl) rfl
theorem en43 : En Try.prog 43 := En.of Try.func43 (by kernel_rfl) rfl
theorem en44 : En Try.prog 44 := En.of Try.func44 (by kernel_rfl) rfl
theorem en45 : En Try.prog 45 := En.of Try.func45 (by kernel_rfl) rfl
theorem en46 : En Try.prog 46 := En.of Try.func46 (by kernel_rfl) rfl
theorem en47 : En Try.prog 47 := En.of Try.func47 (by kernel_rfl) rfl
theorem en48 : En Try.prog 48 := En.of Try.func48 (by kernel_rfl) rfl
theorem en49 : En Try.prog 49 := En.of Try.func49 (by kernel_rfl) rfl
theorem en50 : En Try.prog 50 := En.of Try.func50 (by kernel_rfl) rfl
theorem en51 : En Try.prog 51 := En.of Try.func51 (by kernel_rfl) rfl
theorem en52 : En Try.prog 52 := En.of Try.func52 (by kernel_rfl) rfl
theorem en53 : En Try.prog 53 := En.of Try.func53 (by kernel_rfl) rfl
theorem en54 : En Try.prog 54 := En.of Try.func54 (by kernel_rfl) rfl
theorem en55 : En Try.prog 55 := En.of Try.func55 (by kernel_rfl) rfl
theorem en56 : En Try.prog 56 := En.of Try.func56 (by kernel_rfl) rfl
theorem en57 : En Try.prog 57 := En.of Try.func57 (by kernel_rfl) rfl
theorem en58 : En Try.prog 58 := En.of Try.func58 (by kernel_rfl) rfl
theorem en59 : En Try.prog 59 := En.of Try.func59 (by kernel_rfl) rfl
theorem en60 : En Try.prog 60 := En.of Try.func60 (by kernel_rfl) rfl
theorem en61 : En Try.prog 61 := En.of Try.func61 (by kernel_rfl) rfl
theorem en62 : En Try.prog 62 := En.of Try.func62 (by kernel_rfl) rfl
theorem en63 : En Try.prog 63 := En.of Try.func63 (by kernel_rfl) rfl
theorem en64 : En Try.prog 64 := En.of Try.func64 (by kernel_rfl) rfl
theorem en65 : En Try.prog 65 := En.of Try.func65 (by kernel_rfl) rfl
theorem en66 : En Try.prog 66 := En.of Try.func66 (by kernel_rfl) rfl
theorem en67 : En Try.prog 67 := En.of Try.func67 (by kernel_rfl) rfl
theorem en68 : En Try.prog 68 := En.of Try.func68 (by kernel_rfl) rfl
theorem en69 : En Try.prog 69 := En.of Try.func69 (by kernel_rfl) rfl
theorem en70 : En Try.prog 70 := En.of Try.func70 (by kernel_rfl) rfl
theorem en71 : En Try.prog 71 := En.of Try.func71 (by kernel_rfl) rfl
theorem en73 : En Try.prog 73 := En.of Try.func73 (by kernel_rfl) rfl
theorem en74 : En Try.prog 74 := En.of Try.func74 (by kernel_rfl) rfl
theorem en75 : En Try.prog 75 := En.of Try.func75 (by kernel_rfl) rfl
theorem en76 : En Try.prog 76 := En.of Try.func76 (by kernel_rfl) rfl
theorem en77 : En Try.prog 77 := En.of Try.func77 (by kernel_rfl) rfl
theorem en78 : En Try.prog 78 := En.of Try.func78 (by kernel_rfl) rfl
theorem en79 : En Try.prog 79 := En.of Try.func79 (by kernel_rfl) rfl
theorem en80 : En Try.prog 80 := En.of Try.func80 (by kernel_rfl) rfl
theorem en81 : En Try.prog 81 := En.of Try.func81 (by kernel_rfl) rfl
theorem en82 : En Try.prog 82 := En.of Try.func82 (by kernel_rfl) rfl
theorem en83 : En Try.prog 83 := En.of Try.func83 (by kernel_rfl) rfl
theorem en85 : En Try.prog 85 := En.of Try.func85 (by kernel_rfl) rfl
theorem en86 : En Try.prog 86 := En.of Try.func86 (by kernel_rfl) rfl
theorem en87 : En Try.prog 87 := En.of Try.func87 (by kernel_rfl) rfl
theorem en88 : En Try.prog 88 := En.of Try.func88 (by kernel_rfl) rfl
theorem en89 : En Try.prog 89 := En.of Try.func89 (by kernel_rfl) rfl
theorem en90 : En Try.prog 90 := En.of Try.func90 (by kernel_rfl) rfl
theorem en91 : En Try.prog 91 := En.of Try.func91 (by kernel_rfl) rfl
theorem en92 : En Try.prog 92 := En.of Try.func92 (by kernel_rfl) rfl
theorem en93 : En Try.prog 93 := En.of Try.func93 (by kernel_rfl) rfl
theorem en94 : En Try.prog 94 := En.of Try.func94 (by kernel_rfl) rfl
theorem en95 : En Try.prog 95 := En.of Try.func95 (by kernel_rfl) rfl
theorem en96 : En Try.prog 96 := En.of Try.func96 (by kernel_rfl) rfl
theorem en97 : En Try.prog 97 := En.of Try.func97 (by kernel_rfl) rfl
theorem en98 : En Try.prog 98 := En.of Try.func98 (by kernel_rfl) rfl
theorem en99 : En Try.prog 99 := En.of Try.func99 (by kernel_rfl) rfl
theorem en100 : En Try.prog 100 := En.of Try.func100 (by kernel_rfl) rfl
theorem en101 : En Try.prog 101 := En.of Try.func101 (by kernel_rfl) rfl
theorem en102 : En Try.prog 102 := En.of Try.func102 (by kernel_rfl) rfl
theorem en103 : En Try.prog 103 := En.of Try.func103 (by kernel_rfl) rfl
theorem en104 : En Try.prog 104 := En.of Try.func104 (by kernel_rfl) rfl
theorem en105 : En Try.prog 105 := En.of Try.func105 (by kernel_rfl) rfl
theorem mixed : Try.prog.follows .mixedOrders = true := by kernel_rfl
end Go.Proofs.Ytpandioolpnihaa

/- THE GROUND OF THE WALKS, 14: from the reading of an argument as data to Lean's data. -/
namespace Go.Wk
open Go
set_option linter.unusedVariables false

def Opens {α : Type} (P : Program) (w : World) (t : TypeId) (T : Ty α) : Prop :=
  ∀ (H : Type) (enc : TypeId × Value → H) (fuel : Nat) (cs : List Value) (x : DataW H × List MemPlace), DataW.trod enc P w 0 (fun _ => true) true fuel t cs = some x → (x.1.weights P t).all (· ≤ reachBytes) = true → ∃ y, T.R (fun _ => True) w cs y

def OpensF {α : Type} (P : Program) (w : World) (fs : List Field) (off : Nat) (T : Ty α) : Prop :=
  ∀ (H : Type) (enc : TypeId × Value → H) (fuel : Nat) (cs : List Value) (xs : List (DataW H × List MemPlace)), (∀ (i : Nat) (f : Field), fs[i]? = some f → DataW.trod enc P w 0 (fun _ => true) true fuel f.type ((cs.drop f.offset).take (P.cellsOf f.type)) = xs[i]?) → xs.length = fs.length →
    (DataW.weightsEach P (fs.map (·.type)) (xs.map (·.1))).all (· ≤ reachBytes) = true → ∃ y, T.R (fun _ => True) w ((cs.drop off).take T.sz) y

section
variable {α β : Type} {P : Program} {w : World} {t : TypeId}

theorem opens_int {k : IntKind} (ht : P.underlying t = some (.int k)) : Opens P w t (tInt k) := by
  intro H enc fuel cs x h _
  obtain ⟨n, rfl, _, hw⟩ := DataW.trod_int ht h
  exact ⟨n, rfl, hw⟩
theorem opens_bool (ht : P.underlying t = some .bool) : Opens P w t tBool := by
  intro H enc fuel cs x h _
  obtain ⟨b, rfl, _⟩ := DataW.trod_bool ht h
  exact ⟨b, rfl, trivial⟩
def StrOk (s : ByteArray) : Prop := s.size ≤ 140737488351232
def tStr : Ty ByteArray := tLit Value.string StrOk fun _ => rfl
theorem opens_str (ht : P.underlying t = some .string) : Opens P w t tStr := by
  intro H enc fuel cs x h hw
  obtain ⟨s, rfl, rfl, _⟩ := DataW.trod_string ht h
  refine ⟨s, rfl, ?_⟩
  simp only [DataW.weights, List.all_cons, List.all_nil, Bool.and_true, decide_eq_true_eq, Array.length_toList] at hw
  exact hw

theorem weightsAll_mem {H : Type} {e : TypeId} {p : Nat → Bool} : ∀ {ds : List (DataW H)} {d : DataW H}, d ∈ ds → (DataW.weightsAll P e ds).all p = true → (d.weights P e).all p = true
  | [], d, h, _ => by simp at h
  | d0 :: ds, d, h, hw => by
    rw [DataW.weightsAll, List.all_append, Bool.and_eq_true] at hw
    rcases List.mem_cons.1 h with rfl | h
    · exact hw.1
    · exact weightsAll_mem h hw.2

theorem list_of_each {R : Nat → α → Prop} : ∀ (n : Nat), (∀ i, i < n → ∃ x, R i x) → ∃ xs : List α, xs.length = n ∧ ∀ i x, xs[i]? = some x → R i x
  | 0, _ => ⟨[], rfl, fun i x h => by simp at h⟩
  | n + 1, h => by
    obtain ⟨xs, hl, hx⟩ := list_of_each n fun i hi => h i (by omega)
    obtain ⟨y, hy⟩ := h n (by omega)
    refine ⟨xs ++ [y], by simp [hl], fun i x hi => ?_⟩
    by_cases hlt : i < xs.length
    · exact hx i x (by rwa [List.getElem?_append_left hlt] at hi)
    · have hi' := (List.getElem?_eq_some_iff.1 hi).1
      simp at hi'
      obtain rfl : i = n := by omega
      rw [List.getElem?_append_right (by omega), hl] at hi
      simp at hi; subst hi; exact hy

theorem cells_of_cells? {b o n : Nat} {cs : List Value} (hn : 0 < n) (h : w.cells? 0 ⟨b, o, none⟩ n = some cs) : Cells w b o cs := by
  obtain ⟨_, hl, hc⟩ := World.cells?_some h
  have hadd : ∀ i, (⟨b, o, none⟩ : Addr).add i = ⟨b, o + i, none⟩ := fun i => by
    by_cases h0 : i = 0
    · subst h0; rfl
    · simp [Addr.add, h0]
  have h0 := hc 0 hn
  have h1 : ∃ v, cs[0]? = some v := ⟨_, List.getElem?_eq_getElem (by omega)⟩
  obtain ⟨v, hv⟩ := h1
  rw [hadd, hv] at h0
  unfold World.cell? at h0
  split at h0
  · rename_i C ty fr hb
    refine ⟨C, ty, fr, hb, fun i hi => ?_⟩
    have := hc i (by omega)
    rw [hadd] at this
    simp only [World.cell?, hb] at this
    simpa using this
  · cases h0

theorem opens_slice {e : TypeId} {bytes : Nat} {T : Ty α} (ht : P.underlying t = some (.slice e)) (hc : P.cellsOf e = T.sz) (hb : P.bytesOf e = bytes) (hp : 0 < T.sz) (he : Opens P w e T) : Opens P w t (tSlice T bytes) := by
  intro H enc fuel cs x h hw
  rcases DataW.trod_slice ht h with ⟨rfl, _⟩ | ⟨a, len, cap, elems, rest, n, _, rfl, rfl, _, hl, hm, hlen, hel, _, _⟩
  · exact ⟨[], _, rfl, SlR.nil _ _ _ _⟩
  · rw [DataW.weights, ht] at hw
    simp only [List.length_map, List.all_cons, List.all_append, Bool.and_eq_true, decide_eq_true_eq, hb] at hw
    obtain ⟨hw1, hw2, _⟩ := hw
    obtain ⟨b, o, sp⟩ := a
    have key : ∀ i, i < len → ∃ x, sp = none ∧ ∃ cs, Cells w b (o + i * T.sz) cs ∧ T.R (fun _ => True) w cs x := by
      intro i hi
      have hsp : sp = none := by
        have h0 := hel 0 (by omega)
        rw [List.getElem?_eq_getElem (by omega), Option.bind_eq_some_iff] at h0
        obtain ⟨cs', hcs, _⟩ := h0
        have h2 := World.cells?_some hcs
        have h1 := h2.2.2 0 (by omega)
        rw [Nat.zero_mul, List.getElem?_eq_getElem (by omega)] at h1
        simp only [Addr.add, if_true, World.cell?] at h1
        split at h1
        · cases sp with
          | none => rfl
          | some _ => simp at h1
        · cases h1
      subst hsp
      have h0 := hel i hi
      rw [List.getElem?_eq_getElem (by omega), Option.bind_eq_some_iff] at h0
      obtain ⟨cs', hcs, hy⟩ := h0
      have hadd : (⟨b, o, none⟩ : Addr).add (i * P.cellsOf e) = ⟨b, o + i * T.sz, none⟩ := by
        rw [hc]
        by_cases h0 : i * T.sz = 0
        · simp [Addr.add, h0]
        · simp [Addr.add, h0]
      rw [hadd, hc] at hcs
      obtain ⟨x, hx⟩ := he H enc n cs' _ hy (weightsAll_mem (List.mem_map.2 ⟨_, List.getElem_mem _, rfl⟩) hw2)
      exact ⟨x, rfl, cs', cells_of_cells? hp hcs, hx⟩
    obtain ⟨xs, hxl, hx⟩ := list_of_each len key
    refine ⟨xs, _, rfl, some ⟨b, o, sp⟩, cap, by rw [hxl], by omega, fun h => (by cases h), ?_, hm, fun i x hi => ?_⟩
    · have h1 : xs.length * bytes ≤ (elems.length + rest.length) * bytes := Nat.mul_le_mul_right _ (by omega)
      have h2 : (elems.length + rest.length) * bytes ≤ 140737488351232 := hw1
      omega
    · obtain ⟨rfl, cs', h1, h2⟩ := hx i x hi
      exact ⟨b, o, cs', rfl, trivial, h1, h2⟩

theorem opensF_one {f : Field} {off : Nat} {T : Ty α} (ho : f.offset = off) (hc : P.cellsOf f.type = T.sz) (h : Opens P w f.type T) : OpensF P w [f] off T := by
  intro H enc fuel cs xs hx hl hw
  match xs, hl with
  | [x0], _ =>
    have h0 := hx 0 f rfl
    simp only [List.map_cons, List.map_nil, DataW.weightsEach, List.append_nil] at hw
    rw [ho, hc] at h0
    exact h H enc fuel _ x0 h0 hw
theorem opensF_cons {f : Field} {fs : List Field} {off : Nat} {A : Ty α} {B : Ty β} (ho : f.offset = off) (hc : P.cellsOf f.type = A.sz) (h : Opens P w f.type A) (k : OpensF P w fs (off + A.sz) B) : OpensF P w (f :: fs) off (tPair A B) := by
  intro H enc fuel cs xs hx hl hw
  match xs, hl with
  | x0 :: xs, hl =>
    have h0 := hx 0 f rfl
    simp only [List.map_cons, DataW.weightsEach, List.all_append, Bool.and_eq_true] at hw
    rw [ho, hc] at h0
    obtain ⟨y0, hy0⟩ := h H enc fuel _ x0 h0 hw.1
    obtain ⟨y1, hy1⟩ := k H enc fuel cs xs (fun i g hi => hx (i + 1) g hi) (by simpa using hl) hw.2
    refine ⟨(y0, y1), _, _, ?_, hy0, hy1⟩
    show (cs.drop off).take (A.sz + B.sz) = _
    rw [List.take_add, List.drop_drop]
theorem opens_struct {fs : Array Field} {T : Ty α} (ht : P.underlying t = some (.struct fs)) (hc : P.cellsOf t = T.sz) (h : OpensF P w fs.toList 0 T) : Opens P w t T := by
  intro H enc fuel cs x hx hw
  obtain ⟨xs, n, _, rfl, hl, hxl, hf⟩ := DataW.trod_struct ht hx
  rw [DataW.weights, ht] at hw
  obtain ⟨y, hy⟩ := h H enc n cs xs (fun i f hi => hf i f (by simpa using hi)) (by simpa using hxl) hw
  refine ⟨y, ?_⟩
  rwa [List.drop_zero, ← hc, ← hl, List.take_length] at hy
theorem opens_map {T : Ty α} {f : β → α} (g : α → β) (hg : ∀ a, f (g a) = a) (h : Opens P w t T) : Opens P w t (tMap T f) := by
  intro H enc fuel cs x hx hw
  obtain ⟨y, hy⟩ := h H enc fuel cs x hx hw
  exact ⟨g y, by show T.R _ w cs (f (g y)); rwa [hg]⟩

/-- A parameter. -/
theorem Opens.arg {T : Ty α} (h : Opens P w t T) {H : Type} {enc : TypeId × Value → H} {v : Value} {d : DataW H} {ps : List MemPlace} (ht : DataW.Trod enc P w 0 (fun _ => true) true t v d ps) (hw : (d.weights P t).all (· ≤ reachBytes) = true) : ∃ y, T.R (fun _ => True) w v.cells.toList y := by
  obtain ⟨fuel, hf⟩ := ht
  exact h H enc fuel _ _ hf hw
theorem Opens.slice {T : Ty α} {bytes : Nat} (h : Opens P w t (tSlice T bytes)) {H : Type} {enc : TypeId × Value → H} {a : Option Addr} {n c : Nat} {d : DataW H} {ps : List MemPlace} (ht : DataW.Trod enc P w 0 (fun _ => true) true t (.slice a n c) d ps) (hw : (d.weights P t).all (· ≤ reachBytes) = true) : ∃ xs, SlR T bytes (fun _ => True) w (.slice a n c) xs := by
  obtain ⟨xs, v, e, hv⟩ := h.arg ht hw
  obtain rfl : Value.slice a n c = v := by simpa [Value.cells] using e
  exact ⟨xs, hv⟩
end
end Go.Wk

/- THE GROUND OF THE WALKS, 15: more operators: the rest of a division, truth values held against each other. -/
namespace Go.Wk
open Go
set_option linter.unusedVariables false
section
variable {P : Program} {f : Fr} {w : World} {d t t' ty : Nat} {p : String} {af : Array Edge} {g : Option (Nat × Bool)} {x y : Operand}
theorem y_rem64 {a b : Int} (hx : ev f x = .int .i64 a) (hy : ev f y = .int .i64 b) (h0 : 0 ≤ a) (hb : 0 < b) :
    Yd P ⟨some d, .binOp .rem t x y t', ty, p, af, g⟩ f w (.int .i64 (a % b)) := by
  have hm : a.tmod b = a % b := Int.tmod_eq_emod_of_nonneg h0
  exact ⟨rfl, by simp [execOp, hx, hy, eqGuard, binOp, Op.intDiv, hm, show b ≠ 0 by omega]⟩
theorem run_isNil {e : TypeId} {a : Option Addr} (ht : P.underlying t = some (.pointer e)) (hp : a = none ∨ ∃ x, a = some x) : (Op.equal t (.pointer a) (.pointer none)).run P w = .ok a.isNone w := by
  unfold Op.equal
  rw [show Op.maxDepth = 9999 + 1 from rfl, Op.equalIn]
  simp only [Sem.run_bind, run_underlying ht, Result.andThen]
  rcases hp with rfl | ⟨x, rfl⟩
  · rfl
  · rfl
theorem run_binOp_nil {a : Option Addr} : (binOp .eql t (.pointer a) (.pointer none)) = (do pure (.bool (← Op.equal t (.pointer a) (.pointer none)))) := by
  cases a <;> rfl
theorem run_eqGuard_ptr {a b : Option Addr} : (eqGuard .eql t x y (.pointer a) (.pointer b)).run P w = .ok () w := by
  cases a <;> cases b <;> rfl
theorem y_isNil {e : TypeId} {a : Option Addr} (ht : P.underlying t = some (.pointer e)) (hx : ev f x = .pointer a) (hy : ev f y = .pointer none) : Yd P ⟨some d, .binOp .eql t x y t', ty, p, af, g⟩ f w (.bool a.isNone) :=
  ⟨rfl, by
    have hr := run_isNil (w := w) (a := a) ht (by cases a with | none => exact .inl rfl | some x => exact .inr ⟨x, rfl⟩)
    simp only [execOp, hx, hy, Sem.run_bind, run_eqGuard_ptr, Result.andThen, run_binOp_nil, hr, Sem.run_pure]⟩
theorem y_neqB {a b : Bool} (ht : P.underlying t = some .bool) (hx : ev f x = .bool a) (hy : ev f y = .bool b) : Yd P ⟨some d, .binOp .neq t x y t', ty, p, af, g⟩ f w (.bool (a != b)) :=
  ⟨rfl, by simp [execOp, hx, hy, eqGuard, binOp, run_equal_bool w t a b ht, bne]⟩
theorem y_eqlB {a b : Bool} (ht : P.underlying t = some .bool) (hx : ev f x = .bool a) (hy : ev f y = .bool b) : Yd P ⟨some d, .binOp .eql t x y t', ty, p, af, g⟩ f w (.bool (a == b)) :=
  ⟨rfl, by simp [execOp, hx, hy, eqGuard, binOp, run_equal_bool w t a b ht]⟩
end
theorem SlR.reach {α : Type} {T : Ty α} {bytes : Nat} {Z : Nat → Prop} {w : World} {v : Value} {xs : List α} (h : SlR T bytes Z w v xs) : xs.length * bytes ≤ 140737488351232 := by
  obtain ⟨_, _, _, _, _, h, _⟩ := h; exact h
theorem SlR.len1 {α : Type} {T : Ty α} {bytes : Nat} {Z : Nat → Prop} {w : World} {v : Value} {xs : List α} (h : SlR T bytes Z w v xs) (hb : 0 < bytes) : xs.length ≤ 140737488351232 :=
  Nat.le_trans (Nat.le_mul_of_pos_right _ hb) h.reach
end Go.Wk

/- THE GROUND OF THE WALKS, 16: stores into a row; two effects in either order; rows of many cells each. -/
namespace Go.Wk
open Go
set_option linter.unusedVariables false

section
variable {P : Program} {l : Option Nat} {n : Nat} {K : PK} {f : Fr} {ds : List Deferred} {w : World} {L : List Atom} {d t ty size bytes : Nat} {zero : Value} {dd : TypeDesc} {p : String} {af : Array Edge} {g : Option (Nat × Bool)} {x y : Operand}

theorem rowCell {w : World} {e sz m : Nat} {v : Value} {cs : List Value} (h : w.ownsRow 0 e sz v m cs) {b o : Nat} {u : Value} (hv : v.ownBlock = some b) (hc : cs[o]? = some u) : Cells w b o [u] := by
  rcases h.2 with ⟨rfl, _⟩ | ⟨g', cap, cur, rfl, _, hh, hcc, hm, hsz, ht⟩
  · simp [Value.ownBlock] at hv
  · have hbg : g' = b := by simpa [Value.ownBlock] using hv
    subst hbg
    refine Cells.unit hh ?_
    have hl := (List.getElem?_eq_some_iff.1 hc).1
    rw [← ht, List.getElem?_take_of_lt (by rw [← h.1]; exact hl), Array.getElem?_toList] at hc
    exact hc
/-- One cell of a row of one's own is written. -/
theorem op_storeRow (H : Holds w L) (i : Nat) {e sz m : Nat} {v : Value} {cs : List Value} (hi : L[i]? = some (row e sz v m cs)) {b o : Nat} (hv : v.ownBlock = some b) (ti : TI P t 1 bytes zero dd) {u : Value} (hx : ev f x = .pointer (some ⟨b, o, none⟩)) (hy : ev f y = u)
    (hu : u.cells = #[u]) (ho : o < cs.length) (h1 : u.oneCell' = true) (k : ∀ w', Holds w' (L.set i (row e sz v m (cs.set o u))) → K f ds w') : Op1 P n ⟨none, .store t x y, ty, p, af, g⟩ f ds w K := by
  obtain ⟨hl, hor⟩ := H.get hi
  rcases hor with ⟨rfl, rfl⟩ | ⟨g', cap, cur, rfl, hb0, hh, hc, hm, hsz, ht⟩
  · simp [Value.ownBlock] at hv
  · have hbg : g' = b := by simpa [Value.ownBlock] using hv
    subst hbg
    have hlen : m * sz ≤ cap * sz := Nat.mul_le_mul_right _ hc
    have hcl : cs.length ≤ cur.size := by omega
    have hst := run_storeCells (P := P) (o := o) u.cells.toList 0 w cur hh (by rw [hu]; simp; omega) (by rw [hu]; simpa using h1)
    simp only [Nat.add_zero] at hst
    have hlaid : laid cur o u.cells.toList = cur.setIfInBounds o u := by rw [hu]; rfl
    refine Op1_skip rfl rfl (w' := w.putObj g' (.cells (laid cur o u.cells.toList) e)) ?_ (k _ (H.step i hi rfl (Ext.put w g' _) (fun k _ hk => by subst hk; simp [Value.ownBlock]) (row_ok ⟨by rw [List.length_set]; exact hl, .inr ⟨g', cap, _, rfl, hb0, World.putObj_heap_same (own_lt hh), hc, hm, by rw [hlaid]; simpa using hsz, ?_⟩⟩) fun _ h => .inl h))
    · simp [execOp, hx, hy, Instr.storeAt, Instr.sureAddr, storeVar, ti.run_size, hu, Result.andThen]
      rw [hu] at hst; simp at hst; rw [hst]
    · rw [hlaid, Array.toList_setIfInBounds, List.take_set, ht]
end

section
variable {P : Program} {n : Nat} {Q : PQ} {f : Fr} {ds : List Deferred} {w : World} {ops : List Oper} {bs : List Nat} {S0 : World → Prop} {fuel : Nat} {listed : List Bool}
theorem Op1.imp {o : Oper} {K K' : PK} (h : Op1 P n o f ds w K) (hk : ∀ f ds w, K f ds w → K' f ds w) : Op1 P n o f ds w K' := ⟨h.1, fun a ha he _ => Oper.wp_mono' (fun a w hh => by obtain ⟨f', h1, h2⟩ := hh; exact ⟨f', h1, hk _ _ _ h2⟩) (h.2 a ha he)⟩
/-- Two effects, in either order. -/
theorem DA_pair (i j : Nat) {dst dst' : Option Nat} {op op' : Op} {ty ty' : Nat} {p p' : String} {af af' : Array Edge} (hr : Region.ready .any ops.toArray listed.toArray = [i, j]) (hri : Region.ready .any ops.toArray (listed.set i true).toArray = [j]) (hrj : Region.ready .any ops.toArray (listed.set j true).toArray = [i])
    (hne : i ≠ j) (hi : ops[i]? = some ⟨dst, op, ty, p, af, none⟩) (hj : ops[j]? = some ⟨dst', op', ty', p', af', none⟩) (A : PK)
    (h : Op1 P n ⟨dst, op, ty, p, af, none⟩ f ds w fun f1 ds1 w1 => Sx bs S0 (listed.set i true).toArray w1 ∧ Op1 P n ⟨dst', op', ty', p', af', none⟩ f1 ds1 w1 fun f2 ds2 w2 => Sx bs S0 ((listed.set i true).set j true).toArray w2 ∧ A f2 ds2 w2)
    (h' : Op1 P n ⟨dst', op', ty', p', af', none⟩ f ds w fun f1 ds1 w1 => Sx bs S0 (listed.set j true).toArray w1 ∧ Op1 P n ⟨dst, op, ty, p, af, none⟩ f1 ds1 w1 fun f2 ds2 w2 => Sx bs S0 ((listed.set i true).set j true).toArray w2 ∧ A f2 ds2 w2)
    (k : ∀ f ds w, Sx bs S0 ((listed.set i true).set j true).toArray w → A f ds w → DA P n ops bs S0 Q fuel ((listed.set i true).set j true) f ds w) : DA P n ops bs S0 Q (fuel + 1 + 1) listed f ds w := by
  refine DA_two i j hr hi hj (h.imp ?_) (h'.imp ?_)
  · rintro f1 ds1 w1 ⟨hs, h2⟩
    exact ⟨hs, DA_one j hri hj (h2.imp fun f2 ds2 w2 ⟨hs2, ha⟩ => ⟨hs2, k _ _ _ hs2 ha⟩)⟩
  · rintro f1 ds1 w1 ⟨hs, h2⟩
    refine ⟨hs, DA_one i hrj hi (h2.imp fun f2 ds2 w2 ⟨hs2, ha⟩ => ?_)⟩
    rw [List.set_comm _ _ (Ne.symm hne)]
    exact ⟨hs2, k _ _ _ hs2 ha⟩
end

section
variable {α : Type}
theorem Cells.append {w : World} {b o : Nat} {c1 c2 : List Value} (h1 : Cells w b o c1) (h2 : Cells w b (o + c1.length) c2) : Cells w b o (c1 ++ c2) := by
  obtain ⟨C, ty, fr, hb, hc⟩ := h1
  obtain ⟨C', ty', fr', hb', hc'⟩ := h2
  rw [hb] at hb'; injection hb' with hb'; injection hb' with e1 e2 e3; subst e1 e2 e3
  refine ⟨C, ty, fr, hb, fun i hi => ?_⟩
  by_cases h : i < c1.length
  · rw [List.getElem?_append_left h]; exact hc i h
  · rw [List.getElem?_append_right (by omega)]
    have := hc' (i - c1.length) (by simp at hi; omega)
    rwa [show o + c1.length + (i - c1.length) = o + i by omega] at this
/-- What an append reads of a slice. -/
theorem SlR.src {T : Ty α} {bytes : Nat} {Z : Nat → Prop} {w : World} {v : Value} {xs : List α} (h : SlR T bytes Z w v xs) : ∃ news, (∀ w', Keeps Z w w' → Src w' v xs.length news) ∧ Els T Z w news xs := by
  obtain ⟨a, c, rfl, h1, h2, h3, h4, h5⟩ := h
  by_cases hx : xs = []
  · subst hx
    exact ⟨[], fun _ _ => ⟨a, c, rfl, h2, fun A e j u hu => by simp at hu⟩, Els.nil _ _ _⟩
  · obtain ⟨x0, hx0⟩ : ∃ x, xs[0]? = some x := ⟨xs[0]'(List.length_pos_iff.2 hx), List.getElem?_eq_getElem _⟩
    obtain ⟨b, o, _, rfl, hz0, hc0, _⟩ := h5 0 x0 hx0
    have key : ∀ k, k ≤ xs.length → ∃ news, Els T Z w news (xs.take k) ∧ Cells w b o news := by
      intro k
      induction k with
      | zero => intro _; exact ⟨[], by simpa using Els.nil T Z w, by obtain ⟨C, ty, fr, hb, _⟩ := hc0; exact ⟨C, ty, fr, hb, fun i hi => by simp at hi⟩⟩
      | succ k ih =>
        intro hk
        obtain ⟨news, he, hc⟩ := ih (by omega)
        obtain ⟨x, hxk⟩ : ∃ x, xs[k]? = some x := ⟨xs[k]'(by omega), List.getElem?_eq_getElem _⟩
        obtain ⟨b', o', cs, e, _, hcs, hr⟩ := h5 k x hxk
        injection e with e; injection e with e1 e2 _; subst e1 e2
        refine ⟨news ++ cs, by rw [List.take_add_one, hxk]; exact he.snoc hr, hc.append ?_⟩
        rw [he.1, List.length_take, Nat.min_eq_left (by omega)]; exact hcs
    obtain ⟨news, he, hc⟩ := key xs.length (Nat.le_refl _)
    rw [List.take_length] at he
    exact ⟨news, fun w' k => Src.cells (hc.ext (k.2 b hz0 hc.lt)) _ _, he⟩
theorem cutA_zero (a : Option Addr) (m size : Nat) : cutA a m 0 size = a := by
  unfold cutA; split
  · rfl
  · cases a with
    | none => rfl
    | some a => simp [Addr.add]
/-- A slice's begin. -/
theorem SlR.take {T : Ty α} {bytes : Nat} {Z : Nat → Prop} {w : World} {a : Option Addr} {n c : Nat} {xs : List α} (h : SlR T bytes Z w (.slice a n c) xs) (k : Nat) (hk : k ≤ xs.length) (m size : Nat) : SlR T bytes Z w (.slice (cutA a m 0 size) k c) (xs.take k) := by
  rw [cutA_zero]
  obtain ⟨a', c', e, h1, h2, h3, h4, h5⟩ := h
  injection e with e1 e2 e3; subst e1 e3
  have hl : (xs.take k).length = k := by rw [List.length_take]; omega
  refine ⟨a, c, by rw [hl], by omega, fun h => ⟨by have := (h2 h).1; omega, (h2 h).2⟩, by rw [hl]; exact Nat.le_trans (Nat.mul_le_mul_right _ hk) h3, h4, fun i x hx => h5 i x ?_⟩
  rw [List.getElem?_take] at hx
  split at hx
  · exact hx
  · cases hx
theorem Holds.addNils {w : World} {L : List Atom} (h : Holds w L) (e size : Nat) : ∀ n, Holds w (List.replicate n (row e size (.slice none 0 0) 0 []) ++ L)
  | 0 => by simpa using h
  | n + 1 => by rw [List.replicate_succ, List.cons_append]; exact (Holds.addNils h e size n).rowNil e size
theorem flat_get {g : α → List Value} {m : Nat} (hg : ∀ x, (g x).length = m) : ∀ (l : List α) (i c : Nat), c < m → (l.flatMap g)[i * m + c]? = (l[i]?).bind fun x => (g x)[c]?
  | [], i, c, _ => by simp
  | x :: l, 0, c, hc => by
    rw [List.flatMap_cons, List.getElem?_append_left (by rw [hg]; omega)]; simp
  | x :: l, i + 1, c, hc => by
    rw [List.flatMap_cons, List.getElem?_append_right (by rw [hg, Nat.add_mul]; omega), hg, show (i + 1) * m + c - m = i * m + c by rw [Nat.add_mul]; omega, flat_get hg l i c hc]; simp
theorem flat_len {g : α → List Value} {m : Nat} (hg : ∀ x, (g x).length = m) : ∀ (l : List α), (l.flatMap g).length = l.length * m
  | [] => by simp
  | x :: l => by rw [List.flatMap_cons, List.length_append, hg, flat_len hg l, List.length_cons, Nat.add_mul]; omega
theorem flat_set {g : α → List Value} {m : Nat} (hg : ∀ x, (g x).length = m) : ∀ (l : List α) (i c : Nat) (x x' : α) (v : Value), c < m → l[i]? = some x → g x' = (g x).set c v → (l.flatMap g).set (i * m + c) v = (l.set i x').flatMap g
  | [], i, c, x, x', v, _, h, _ => by simp at h
  | y :: l, 0, c, x, x', v, hc, h, hx => by
    simp at h; subst h
    rw [List.flatMap_cons, List.set_append_left _ _ (by rw [hg]; omega), List.set_cons_zero, List.flatMap_cons, hx]; simp
  | y :: l, i + 1, c, x, x', v, hc, h, hx => by
    simp at h
    rw [List.flatMap_cons, List.set_append_right _ _ (by rw [hg, Nat.add_mul]; omega), hg, show (i + 1) * m + c - m = i * m + c by rw [Nat.add_mul]; omega, flat_set hg l i c x x' v hc h hx, List.set_cons_succ, List.flatMap_cons]
end
end Go.Wk

/- THE GROUND OF THE WALKS, 17: bytes as strings, and strings held against each other. -/
namespace Go.Wk
open Go
set_option linter.unusedVariables false

/-- Bytes as a string. -/
def kb (k : List Int) : ByteArray := ⟨(k.map fun i => UInt8.ofNat i.toNat).toArray⟩
theorem kb_fold (k : List Int) : k.foldl (fun r n => r.push (UInt8.ofNat n.toNat)) ByteArray.empty = kb k := by
  have : ∀ (k : List Int) (s : ByteArray), k.foldl (fun r n => r.push (UInt8.ofNat n.toNat)) s = ⟨s.data ++ (k.map fun i => UInt8.ofNat i.toNat).toArray⟩ := by
    intro k
    induction k with
    | nil => intro s; simp
    | cons a k ih => intro s; rw [List.foldl_cons, ih]; simp [ByteArray.push]
  rw [this]; simp [kb, ByteArray.empty, ByteArray.emptyWithCapacity]; rfl
theorem inK_u8 {a : Int} (h : InK .u8 a) : 0 ≤ a ∧ a < 256 := by
  unfold InK Lit.wf at h
  rw [Bool.and_eq_true, decide_eq_true_iff, decide_eq_true_iff] at h
  have h1 : IntKind.u8.min = 0 := rfl
  have h2 : IntKind.u8.max = 255 := rfl
  omega
theorem u8_inj {a b : Int} (ha : InK .u8 a) (hb : InK .u8 b) (h : UInt8.ofNat a.toNat = UInt8.ofNat b.toNat) : a = b := by
  have ha' := inK_u8 ha
  have hb' := inK_u8 hb
  have := congrArg UInt8.toNat h
  simp at this
  omega
theorem kb_inj : ∀ {a b : List Int}, (∀ x ∈ a, InK .u8 x) → (∀ x ∈ b, InK .u8 x) → kb a = kb b → a = b := by
  intro a b ha hb h
  have h1 : (a.map fun i => UInt8.ofNat i.toNat) = (b.map fun i => UInt8.ofNat i.toNat) := by
    have := congrArg (fun s => s.data.toList) h
    simpa [kb] using this
  clear h
  induction a generalizing b with
  | nil => cases b with
    | nil => rfl
    | cons y b => simp at h1
  | cons x a ih => cases b with
    | nil => simp at h1
    | cons y b =>
      simp only [List.map_cons, List.cons.injEq] at h1
      rw [u8_inj (ha x (by simp)) (hb y (by simp)) h1.1, ih (fun x hx => ha x (by simp [hx])) (fun x hx => hb x (by simp [hx])) h1.2]

section
variable {P : Program} {f : Fr} {w : World} {d t t' ty : Nat} {p : String} {af : Array Edge} {g : Option (Nat × Bool)} {x y : Operand} {Z : Nat → Prop}
theorem SlR.row {α : Type} {T : Ty α} {bytes : Nat} {v : Value} {xs : List α} (h : SlR T bytes Z w v xs) (hx : xs ≠ []) : ∃ b o c news, v = .slice (some ⟨b, o, none⟩) xs.length c ∧ Z b ∧ Cells w b o news ∧ Els T Z w news xs := by
  obtain ⟨a, c, rfl, h1, h2, h3, h4, h5⟩ := h
  obtain ⟨x0, hx0⟩ : ∃ x, xs[0]? = some x := ⟨xs[0]'(List.length_pos_iff.2 hx), List.getElem?_eq_getElem _⟩
  obtain ⟨b, o, _, rfl, hz0, hc0, _⟩ := h5 0 x0 hx0
  have key : ∀ k, k ≤ xs.length → ∃ news, Els T Z w news (xs.take k) ∧ Cells w b o news := by
    intro k
    induction k with
    | zero => intro _; exact ⟨[], by simpa using Els.nil T Z w, by obtain ⟨C, ty, fr, hb, _⟩ := hc0; exact ⟨C, ty, fr, hb, fun i hi => by simp at hi⟩⟩
    | succ k ih =>
      intro hk
      obtain ⟨news, he, hc⟩ := ih (by omega)
      obtain ⟨x, hxk⟩ : ∃ x, xs[k]? = some x := ⟨xs[k]'(by omega), List.getElem?_eq_getElem _⟩
      obtain ⟨b', o', cs, e, _, hcs, hr⟩ := h5 k x hxk
      injection e with e; injection e with e1 e2 _; subst e1 e2
      refine ⟨news ++ cs, by rw [List.take_add_one, hxk]; exact he.snoc hr, hc.append ?_⟩
      rw [he.1, List.length_take, Nat.min_eq_left (by omega)]; exact hcs
  obtain ⟨news, he, hc⟩ := key xs.length (Nat.le_refl _)
  rw [List.take_length] at he
  exact ⟨b, o, c, news, rfl, hz0, hc, he⟩
theorem Els.ints {k : IntKind} {cs : List Value} {xs : List Int} (h : Els (tInt k) Z w cs xs) : cs = xs.map (Value.int k) := by
  apply List.ext_getElem?
  intro i
  have hl : cs.length = xs.length := by have := h.1; simpa [tInt, tLit] using this
  rw [List.getElem?_map]
  by_cases hi : i < xs.length
  · obtain ⟨h1, _⟩ := h.2 i xs[i] (List.getElem?_eq_getElem hi)
    have h2 : ((cs.drop (i * 1)).take 1)[0]? = some (Value.int k xs[i]) := by
      have : (cs.drop (i * 1)).take 1 = [Value.int k xs[i]] := h1
      rw [this]; rfl
    rw [List.getElem?_take_of_lt (by omega), List.getElem?_drop] at h2
    rw [List.getElem?_eq_getElem hi]; simpa using h2
  · rw [List.getElem?_eq_none (by omega), List.getElem?_eq_none (by omega)]; rfl
theorem SlR.allIn {k : IntKind} {bytes : Nat} {v : Value} {xs : List Int} (h : SlR (tInt k) bytes Z w v xs) : ∀ x ∈ xs, InK k x := fun x hx => by
  obtain ⟨i, hi⟩ := List.getElem?_of_mem hx
  obtain ⟨a, c, rfl, _, _⟩ := h.len
  obtain ⟨_, _, _, _, _, _, _, h2⟩ := h.at hi
  exact h2
/-- string(bytes) -/
theorem y_toStr {e : TypeId} {k : List Int} {bytes : Nat} {v : Value} (hs : P.underlying t = some (.slice e)) (he : P.underlying e = some (.int .u8)) (hd : P.underlying t' = some .string) (hx : ev f x = v) (h : SlR (tInt .u8) bytes Z w v k) :
    Yd P ⟨some d, .convert t t' x, ty, p, af, g⟩ f w (.string (kb k)) := by
  refine ⟨rfl, ?_⟩
  obtain ⟨a, c, rfl, h1, h2, _⟩ := id h
  have hr : (Conv.bytesToString (.slice a k.length c)).run P w = .ok (.string (kb k)) w := by
    by_cases hk : k = []
    · subst hk
      cases a with
      | none => rfl
      | some a => simp [Conv.bytesToString, loadCells, loadCellsFrom]; rfl
    · obtain ⟨b, o, c', news, hv, _, hc, hE⟩ := h.row hk
      injection hv with hv _ _; subst hv
      have hn := hE.ints
      rw [← kb_fold]
      exact run_bytesToString w _ _ _ k (by rw [run_loadCells hc (by rw [hn, List.length_map]), hn])
  simp only [execOp, hx, Sem.run_bind, run_convert_bytes_string w t t' e a k.length c hs he hd, hr, Result.andThen, Sem.run_pure]
theorem bytes_toList_inj {a b : ByteArray} (h : a.toList = b.toList) : a = b := by
  rw [ByteArray.toList_eq, ByteArray.toList_eq] at h
  obtain ⟨a⟩ := a; obtain ⟨b⟩ := b
  simp only [ByteArray.mk.injEq]
  exact Array.toList_inj.1 h
theorem y_neqS {a b : ByteArray} (hx : ev f x = .string a) (hy : ev f y = .string b) : Yd P ⟨some d, .binOp .neq t x y t', ty, p, af, g⟩ f w (.bool (decide (a ≠ b))) :=
  ⟨rfl, by
    have : (!(a.toList == b.toList)) = decide (a ≠ b) := by
      rw [Bool.eq_iff_iff, decide_eq_true_iff]
      simp only [Bool.not_eq_true', beq_eq_false_iff_ne]
      exact ⟨fun h e => h (by rw [e]), fun h e => h (bytes_toList_inj e)⟩
    simp [execOp, hx, hy, eqGuard, binOp, Op.stringOp]
    simpa using this⟩
theorem y_eqlS {a b : ByteArray} (hx : ev f x = .string a) (hy : ev f y = .string b) : Yd P ⟨some d, .binOp .eql t x y t', ty, p, af, g⟩ f w (.bool (decide (a = b))) :=
  ⟨rfl, by
    have : (a.toList == b.toList) = decide (a = b) := by
      rw [Bool.eq_iff_iff, decide_eq_true_iff]
      simp only [beq_iff_eq]
      exact ⟨fun h => bytes_toList_inj h, fun h => by rw [h]⟩
    simp [execOp, hx, hy, eqGuard, binOp, Op.stringOp]
    simpa using this⟩
theorem y_neq0 {k : IntKind} {a : Int} (hx : ev f x = .int k a) (hy : ev f y = .int k a) : Yd P ⟨some d, .binOp .neq t x y t', ty, p, af, g⟩ f w (.bool false) := by
  have := y_neq (P := P) (w := w) (d := d) (t := t) (t' := t') (ty := ty) (p := p) (af := af) (g := g) hx hy
  rwa [decide_eq_false (show ¬ (a ≠ a) from fun h => h rfl)] at this
theorem y_neqS0 {a : ByteArray} (hx : ev f x = .string a) (hy : ev f y = .string a) : Yd P ⟨some d, .binOp .neq t x y t', ty, p, af, g⟩ f w (.bool false) := by
  have := y_neqS (P := P) (w := w) (d := d) (t := t) (t' := t') (ty := ty) (p := p) (af := af) (g := g) hx hy
  rwa [decide_eq_false (show ¬ (a ≠ a) from fun h => h rfl)] at this
end
end Go.Wk

/- THE GROUND OF THE WALKS, 18: drawn regions with effects, under guards. -/
namespace Go.Wk
open Go
set_option linter.unusedVariables false
section
variable {P : Program} {l : Option Nat} {n : Nat} {Q : PQ} {f : Fr} {ds : List Deferred} {w : World} {ops : List Oper} {bs : List Nat} {S0 : World → Prop} {fuel : Nat} {listed : List Bool}
theorem DA_yg (i : Nat) {op : Op} {ty : Nat} {p : String} {af : Array Edge} {d : Nat} {v : Value} {j dj : Nat} {b : Bool} (hi : ops[i]? = some ⟨some d, op, ty, p, af, some (j, b)⟩) (hj : (ops.toArray[j]?).bind (·.dst) = some dj) (hdj : dj < n) (hbv : f dj = .bool b) (hok : okT ops listed i = true) (hb : bs.contains i = false) (hreach : bs.all (fun d => reachB ops.toArray ops.length d i) = true)
    (hy : ∀ w', S0 w' → Yd P ⟨some d, op, ty, p, af, some (j, b)⟩ f w' v) (hS : Sx bs S0 listed.toArray w) (hd : d < n) (k : Sx bs S0 (listed.set i true).toArray w → DA P n ops bs S0 Q fuel (listed.set i true) (upd f d v) ds w) : DA P n ops bs S0 Q (fuel + 1) listed f ds w :=
  DA_q i hi hok hb (fun a ha => by simp [Region.wanted, yielded_at ha hj hdj hbv]) (.inl ⟨hreach, fun w' h => (hy w' h).run⟩) hS (fun _ e => by injection e with e; subst e; exact hd) k
theorem DA_pg (i : Nat) {op : Op} {ty : Nat} {p : String} {af : Array Edge} {d : Nat} {v : Value} {j dj : Nat} {b : Bool} (hi : ops[i]? = some ⟨some d, op, ty, p, af, some (j, b)⟩) (hj : (ops.toArray[j]?).bind (·.dst) = some dj) (hdj : dj < n) (hbv : f dj = .bool b) (hok : okT ops listed i = true) (hb : bs.contains i = false)
    (hy : ∀ w', Yd P ⟨some d, op, ty, p, af, some (j, b)⟩ f w' v) (hS : Sx bs S0 listed.toArray w) (hd : d < n) (k : Sx bs S0 (listed.set i true).toArray w → DA P n ops bs S0 Q fuel (listed.set i true) (upd f d v) ds w) : DA P n ops bs S0 Q (fuel + 1) listed f ds w :=
  DA_q i hi hok hb (fun a ha => by simp [Region.wanted, yielded_at ha hj hdj hbv]) (.inr fun w' => (hy w').run) hS (fun _ e => by injection e with e; subst e; exact hd) k
theorem DA_oneg (i : Nat) {dst : Option Nat} {op : Op} {ty : Nat} {p : String} {af : Array Edge} {j dj : Nat} {b : Bool} (hr : Region.ready .any ops.toArray listed.toArray = [i]) (hi : ops[i]? = some ⟨dst, op, ty, p, af, some (j, b)⟩) (hj : (ops.toArray[j]?).bind (·.dst) = some dj) (hdj : dj < n) (hbv : f dj = .bool b)
    (h : Op1 P n ⟨dst, op, ty, p, af, some (j, b)⟩ f ds w fun f' ds' w' => Sx bs S0 (listed.set i true).toArray w' ∧ DA P n ops bs S0 Q fuel (listed.set i true) f' ds' w') : DA P n ops bs S0 Q (fuel + 1) listed f ds w :=
  DA_all [i] hr (by simp) fun k hk => by
    simp only [List.mem_singleton] at hk; subst hk
    exact ⟨_, hi, fun a ha => by simp [Region.wanted, yielded_at ha hj hdj hbv], h⟩
end
end Go.Wk

/- THE GROUND OF THE WALKS, 19: comparisons whose answer is known. -/
namespace Go.Wk
open Go
set_option linter.unusedVariables false
section
variable {P : Program} {f : Fr} {w : World} {d t t' ty : Nat} {p : String} {af : Array Edge} {g : Option (Nat × Bool)} {x y : Operand} {k : IntKind} {a b : Int}
theorem y_eqlT (h : a = b) (hx : ev f x = .int k a) (hy : ev f y = .int k b) : Yd P ⟨some d, .binOp .eql t x y t', ty, p, af, g⟩ f w (.bool true) := by
  have := y_eql (P := P) (w := w) (d := d) (t := t) (t' := t') (ty := ty) (p := p) (af := af) (g := g) hx hy; rwa [decide_eq_true h] at this
theorem y_eqlF (h : ¬ a = b) (hx : ev f x = .int k a) (hy : ev f y = .int k b) : Yd P ⟨some d, .binOp .eql t x y t', ty, p, af, g⟩ f w (.bool false) := by
  have := y_eql (P := P) (w := w) (d := d) (t := t) (t' := t') (ty := ty) (p := p) (af := af) (g := g) hx hy; rwa [decide_eq_false h] at this
theorem y_neqT (h : a ≠ b) (hx : ev f x = .int k a) (hy : ev f y = .int k b) : Yd P ⟨some d, .binOp .neq t x y t', ty, p, af, g⟩ f w (.bool true) := by
  have := y_neq (P := P) (w := w) (d := d) (t := t) (t' := t') (ty := ty) (p := p) (af := af) (g := g) hx hy; rwa [decide_eq_true h] at this
theorem y_neqF (h : a = b) (hx : ev f x = .int k a) (hy : ev f y = .int k b) : Yd P ⟨some d, .binOp .neq t x y t', ty, p, af, g⟩ f w (.bool false) := by
  have := y_neq (P := P) (w := w) (d := d) (t := t) (t' := t') (ty := ty) (p := p) (af := af) (g := g) hx hy; rwa [decide_eq_false (fun hn : a ≠ b => hn h)] at this
theorem y_lssT (h : a < b) (hx : ev f x = .int k a) (hy : ev f y = .int k b) : Yd P ⟨some d, .binOp .lss t x y t', ty, p, af, g⟩ f w (.bool true) := by
  have := y_lss (P := P) (w := w) (d := d) (t := t) (t' := t') (ty := ty) (p := p) (af := af) (g := g) hx hy; rwa [decide_eq_true h] at this
theorem y_lssF (h : ¬ a < b) (hx : ev f x = .int k a) (hy : ev f y = .int k b) : Yd P ⟨some d, .binOp .lss t x y t', ty, p, af, g⟩ f w (.bool false) := by
  have := y_lss (P := P) (w := w) (d := d) (t := t) (t' := t') (ty := ty) (p := p) (af := af) (g := g) hx hy; rwa [decide_eq_false h] at this
theorem y_leqT (h : a ≤ b) (hx : ev f x = .int k a) (hy : ev f y = .int k b) : Yd P ⟨some d, .binOp .leq t x y t', ty, p, af, g⟩ f w (.bool true) := by
  have := y_leq (P := P) (w := w) (d := d) (t := t) (t' := t') (ty := ty) (p := p) (af := af) (g := g) hx hy; rwa [decide_eq_true h] at this
theorem y_leqF (h : ¬ a ≤ b) (hx : ev f x = .int k a) (hy : ev f y = .int k b) : Yd P ⟨some d, .binOp .leq t x y t', ty, p, af, g⟩ f w (.bool false) := by
  have := y_leq (P := P) (w := w) (d := d) (t := t) (t' := t') (ty := ty) (p := p) (af := af) (g := g) hx hy; rwa [decide_eq_false h] at this
theorem y_gtrT (h : a > b) (hx : ev f x = .int k a) (hy : ev f y = .int k b) : Yd P ⟨some d, .binOp .gtr t x y t', ty, p, af, g⟩ f w (.bool true) := by
  have := y_gtr (P := P) (w := w) (d := d) (t := t) (t' := t') (ty := ty) (p := p) (af := af) (g := g) hx hy; rwa [decide_eq_true h] at this
theorem y_gtrF (h : ¬ a > b) (hx : ev f x = .int k a) (hy : ev f y = .int k b) : Yd P ⟨some d, .binOp .gtr t x y t', ty, p, af, g⟩ f w (.bool false) := by
  have := y_gtr (P := P) (w := w) (d := d) (t := t) (t' := t') (ty := ty) (p := p) (af := af) (g := g) hx hy; rwa [decide_eq_false h] at this
theorem y_geqT (h : a ≥ b) (hx : ev f x = .int k a) (hy : ev f y = .int k b) : Yd P ⟨some d, .binOp .geq t x y t', ty, p, af, g⟩ f w (.bool true) := by
  have := y_geq (P := P) (w := w) (d := d) (t := t) (t' := t') (ty := ty) (p := p) (af := af) (g := g) hx hy; rwa [decide_eq_true h] at this
theorem y_geqF (h : ¬ a ≥ b) (hx : ev f x = .int k a) (hy : ev f y = .int k b) : Yd P ⟨some d, .binOp .geq t x y t', ty, p, af, g⟩ f w (.bool false) := by
  have := y_geq (P := P) (w := w) (d := d) (t := t) (t' := t') (ty := ty) (p := p) (af := af) (g := g) hx hy; rwa [decide_eq_false h] at this
end
section
variable {P : Program} {l : Option Nat} {n : Nat} {Q : PQ} {K : Fr → Prop} {f : Fr} {ds : List Deferred} {w : World} {all : Array Oper} {rest : List Oper}
/-- The guard itself was passed over. -/
theorem yielded_undef {a : Act} {j d : Nat} (ha : Fits n f a) (hj : (all[j]?).bind (·.dst) = some d) (hd : d < n) (hb : f d = undef) : yielded all a.tmps j = none := by
  unfold yielded
  rw [hj]
  have : a.tmps[d]? = some (f d) := by
    rw [← ha.2 d, Array.getD_eq_getD_getElem?]
    rw [Array.getElem?_eq_getElem (by rw [ha.1]; exact hd)]; rfl
  simp only [Option.bind_some, this, hb]
  rfl
theorem OL_u {dst : Option Nat} {op : Op} {ty : Nat} {p : String} {af : Array Edge} {j d : Nat} {b : Bool} (hj : (all[j]?).bind (·.dst) = some d) (hd : d < n) (hb : f d = undef) (hdst : ∀ d, dst = some d → d < n)
    (h : OL P l n all Q rest (updO f dst undef) ds w) : OL P l n all Q (⟨dst, op, ty, p, af, some (j, b)⟩ :: rest) f ds w := fun a ha hd' =>
  wpListIn_step fun K hK => by
    rw [if_neg (by simp only [Region.wanted, yielded_undef ha hj hd hb]; simp)]
    exact ⟨fun g _ => fe_fn l g, hK _ _ (h _ (ha.putO hdst _) (by cases dst <;> exact hd'))⟩
theorem QL_u {dst : Option Nat} {op : Op} {ty : Nat} {p : String} {af : Array Edge} {j dj : Nat} {b : Bool} (hj : (all[j]?).bind (·.dst) = some dj) (hdj : dj < n) (hb : f dj = undef) (hdst : ∀ d, dst = some d → d < n)
    (k : QL P n all rest (updO f dst undef) w K) : QL P n all (⟨dst, op, ty, p, af, some (j, b)⟩ :: rest) f w K :=
  ⟨undef, fun a ha => .inr ⟨by simp only [Region.wanted, yielded_undef ha hj hdj hb]; simp, rfl⟩, hdst, k⟩
end
end Go.Wk

/- THE GROUND OF THE WALKS, 20: sums whose result is told; conversions between kinds of numbers; rows read and written an element at a time. -/
namespace Go.Wk
open Go
set_option linter.unusedVariables false
set_option linter.unusedSimpArgs false

section
variable {P : Program} {f : Fr} {w : World} {d t t' ty : Nat} {p : String} {af : Array Edge} {g : Option (Nat × Bool)} {x y : Operand} {a b : Int} {k k' : IntKind}
theorem y_add64' (c : Int) (hx : ev f x = .int .i64 a) (hy : ev f y = .int .i64 b) (h : a + b = c) (h1 : -9223372036854775808 ≤ c) (h2 : c < 9223372036854775808) : Yd P ⟨some d, .binOp .add t x y t', ty, p, af, g⟩ f w (.int .i64 c) := by
  subst h; exact y_add64 hx hy h1 h2
theorem y_sub64' (c : Int) (hx : ev f x = .int .i64 a) (hy : ev f y = .int .i64 b) (h : a - b = c) (h1 : -9223372036854775808 ≤ c) (h2 : c < 9223372036854775808) : Yd P ⟨some d, .binOp .sub t x y t', ty, p, af, g⟩ f w (.int .i64 c) := by
  subst h; exact y_sub64 hx hy h1 h2
theorem y_mul64' (c : Int) (hx : ev f x = .int .i64 a) (hy : ev f y = .int .i64 b) (h : a * b = c) (h1 : -9223372036854775808 ≤ c) (h2 : c < 9223372036854775808) : Yd P ⟨some d, .binOp .mul t x y t', ty, p, af, g⟩ f w (.int .i64 c) := by
  subst h
  have := y_mulw (P := P) (w := w) (d := d) (t := t) (t' := t') (ty := ty) (p := p) (af := af) (g := g) hx hy
  rwa [show IntKind.i64.wrap (a * b) = a * b from IntWalk.i64_in _ (by omega)] at this
/-- A conversion between kinds of numbers. -/
theorem y_conv (c : Int) (hs : (P.underlying t).isSome = true) (hd : P.underlying t' = some (.int k')) (hx : ev f x = .int k a) (h : k'.wrap a = c) : Yd P ⟨some d, .convert t t' x, ty, p, af, g⟩ f w (.int k' c) := by
  subst h
  have hk : P.intKind t' = k' := by simp [Program.intKind, hd]
  have := run_convert_int (P := P) w t t' k a hs (by rw [hk]; exact hd)
  rw [hk] at this
  exact ⟨rfl, by simp only [execOp, hx, Sem.run_bind, this, Result.andThen, Sem.run_pure]⟩
theorem y_shr1 (c : Int) (hx : ev f x = .int k a) (hy : ev f y = .int k' 1) (hb : 1 ≤ k.bits) (h : a.fdiv 2 = c) : Yd P ⟨some d, .binOp .shr t x y t', ty, p, af, g⟩ f w (.int k c) := by
  subst h
  refine ⟨rfl, ?_⟩
  have e : min (Int.toNat 1) k.bits = 1 := by show min 1 k.bits = 1; omega
  have hs : (Op.shift .shr k a k' 1).run P w = .ok (.int k (a.fdiv 2)) w := by
    unfold Op.shift
    rw [if_neg (by decide)]
    simp only [e]
    rfl
  simp [execOp, hx, hy, eqGuard, binOp, Result.andThen, hs]
end
theorem wrap_u64 {a : Int} (h0 : 0 ≤ a) (h1 : a < 18446744073709551616) : IntKind.u64.wrap a = a := by
  show IntKind.wrap .u64 a = a
  unfold IntKind.wrap
  simp [IntKind.signed, IntKind.bits]
  omega
theorem wrap_i64 {a : Int} (h0 : -9223372036854775808 ≤ a) (h1 : a < 9223372036854775808) : IntKind.i64.wrap a = a := IntWalk.i64_in _ (by omega)

/-! ### Rows, an element at a time -/
section
variable {P : Program} {n : Nat} {K : PK} {f : Fr} {ds : List Deferred} {w : World} {L : List Atom} {d t ty size bytes : Nat} {zero : Value} {dd : TypeDesc} {p : String} {af : Array Edge} {g : Option (Nat × Bool)} {x y : Operand}
theorem rowCells {w : World} {e sz m : Nat} {v : Value} {cs : List Value} (h : w.ownsRow 0 e sz v m cs) {b o : Nat} (hv : v.ownBlock = some b) {us : List Value} (hc : (cs.drop o).take us.length = us) : Cells w b o us := by
  rcases h.2 with ⟨rfl, _⟩ | ⟨g', cap, cur, rfl, _, hh, hcc, hm, hsz, ht⟩
  · simp [Value.ownBlock] at hv
  · have hbg : g' = b := by simpa [Value.ownBlock] using hv
    subst hbg
    have hC : Cells w g' 0 cs := Cells.of hh (by rw [List.drop_zero, h.1]; exact ht)
    have := hC.take o hc
    rwa [Nat.zero_add] at this
theorem flat_at {α : Type} {g : α → List Value} {m : Nat} (hg : ∀ x, (g x).length = m) {l : List α} {i : Nat} {x : α} (hi : l[i]? = some x) : ((l.flatMap g).drop (i * m)).take (g x).length = g x := by
  apply List.ext_getElem?
  intro c
  rw [hg]
  by_cases hc : c < m
  · rw [List.getElem?_take_of_lt hc, List.getElem?_drop, flat_get hg l i c hc, hi]; rfl
  · rw [List.getElem?_eq_none (by simp; omega), List.getElem?_eq_none (by rw [hg]; omega)]
/-- An element of a row that lies there element by element. -/
theorem rowElAt {α : Type} {g : α → List Value} {m : Nat} (hg : ∀ x, (g x).length = m) {w : World} {e n : Nat} {v : Value} {l : List α} (h : w.ownsRow 0 e m v n (l.flatMap g)) {b : Nat} (hv : v.ownBlock = some b) {i : Nat} {x : α} (hi : l[i]? = some x) : Cells w b (0 + i * m) (g x) := by
  rw [Nat.zero_add]; exact rowCells h hv (flat_at hg hi)
theorem flat_setEl {α : Type} {g : α → List Value} {m : Nat} (hg : ∀ x, (g x).length = m) : ∀ (l : List α) (i : Nat) (x : α), i < l.length → (l.flatMap g).take (i * m) ++ g x ++ (l.flatMap g).drop (i * m + m) = (l.set i x).flatMap g
  | [], i, x, h => by simp at h
  | y :: l, 0, x, h => by
    have : (g y).length = m := hg y
    simp [List.drop_append, ← this]
  | y :: l, i + 1, x, h => by
    have e1 : (i + 1) * m = (g y).length + i * m := by rw [hg, Nat.add_mul]; omega
    rw [List.flatMap_cons, List.set_cons_succ, List.flatMap_cons, e1, List.take_length_add_append, Nat.add_assoc, List.drop_length_add_append, List.append_assoc, List.append_assoc, ← flat_setEl hg l i x (by simpa using h)]
    simp
/-- Many cells of a row of one's own are written at once. -/
theorem op_storeRowA (H : Holds w L) (i : Nat) {e sz m : Nat} {v : Value} {cs : List Value} (hi : L[i]? = some (row e sz v m cs)) {b o : Nat} (hv : v.ownBlock = some b) (ti : TI P t size bytes zero dd) {u : Value} (hx : ev f x = .pointer (some ⟨b, o, none⟩)) (hy : ev f y = u)
    (hu : u.cells.size = size) (ho : o + size ≤ cs.length) (h1 : ∀ c ∈ u.cells.toList, c.oneCell' = true) (k : ∀ w', Holds w' (L.set i (row e sz v m (cs.take o ++ u.cells.toList ++ cs.drop (o + size)))) → K f ds w') : Op1 P n ⟨none, .store t x y, ty, p, af, g⟩ f ds w K := by
  obtain ⟨hl, hor⟩ := H.get hi
  rcases hor with ⟨rfl, rfl⟩ | ⟨g', cap, cur, rfl, hb0, hh, hc, hm, hsz, ht⟩
  · simp [Value.ownBlock] at hv
  · have hbg : g' = b := by simpa [Value.ownBlock] using hv
    subst hbg
    have hlen : m * sz ≤ cap * sz := Nat.mul_le_mul_right _ hc
    have hcl : cs.length ≤ cur.size := by omega
    have hul : u.cells.toList.length = size := by simpa using hu
    have hst := run_storeCells (P := P) (o := o) u.cells.toList 0 w cur hh (by rw [hul]; omega) h1
    simp only [Nat.add_zero] at hst
    have hlaid := laid_toList cur o u.cells.toList (by rw [hul]; omega)
    refine Op1_skip rfl rfl (w' := w.putObj g' (.cells (laid cur o u.cells.toList) e)) ?_ (k _ (H.step i hi rfl (Ext.put w g' _) (fun k _ hk => by subst hk; simp [Value.ownBlock]) (row_ok ⟨?_, .inr ⟨g', cap, _, rfl, hb0, World.putObj_heap_same (own_lt hh), hc, hm, by rw [laid_size]; exact hsz, ?_⟩⟩) fun _ h => .inl h))
    · simp [execOp, hx, hy, Instr.storeAt, Instr.sureAddr, storeVar, ti.run_size, hu, Result.andThen, hst]
    · simp only [List.length_append, List.length_take, List.length_drop, hul]; omega
    · rw [hlaid, hul]
      have e1 : m * sz = cs.length := hl.symm
      rw [e1] at ht ⊢
      rw [← ht]
      simp only [List.take_append, List.length_append, List.length_take, Array.length_toList, hul, List.take_take, List.length_drop]
      have h2 : min o cur.size = o := by omega
      have h3 : min cs.length cur.size = cs.length := by omega
      simp only [h2, h3]
      have h4 : min cs.length o = o := by omega
      have h5 : min o cs.length = o := by omega
      rw [h4, List.take_of_length_le (l := u.cells.toList) (by rw [hul]; omega), h5, List.drop_take, show cs.length - (o + size) = cs.length - (o + size) from rfl]
/-- An element of such a row is written. -/
theorem op_storeEl {α : Type} {gg : α → List Value} {m : Nat} (hg : ∀ x, (gg x).length = m) (H : Holds w L) (i : Nat) {e nn : Nat} {v : Value} {l : List α} (hi : L[i]? = some (row e m v nn (l.flatMap gg))) {b j : Nat} (hv : v.ownBlock = some b) (ti : TI P t m bytes zero dd) {u : Value} (el : α)
    (hx : ev f x = .pointer (some ⟨b, 0 + j * m, none⟩)) (hy : ev f y = u) (hu : u.cells.toList = gg el) (hj : j < l.length) (h1 : ∀ c ∈ gg el, c.oneCell' = true) (k : ∀ w', Holds w' (L.set i (row e m v nn ((l.set j el).flatMap gg))) → K f ds w') : Op1 P n ⟨none, .store t x y, ty, p, af, g⟩ f ds w K := by
  rw [Nat.zero_add] at hx
  refine op_storeRowA H i hi hv ti hx hy (by rw [← Array.length_toList, hu, hg]) (by rw [flat_len hg]; have := Nat.mul_le_mul_right m (show j + 1 ≤ l.length from hj); rw [Nat.add_mul] at this; omega) (by rw [hu]; exact h1) fun w' H' => k w' ?_
  rw [hu, flat_setEl hg l j el hj] at H'
  exact H'
end
end Go.Wk

/- THE GROUND OF THE WALKS, 21: a range over a map: the iterator, its steps in whatever order, the entry of a step; deletions on the way. -/
namespace Go.Wk
open Go
set_option linter.unusedVariables false
set_option linter.unusedSimpArgs false
set_option linter.unusedSectionVars false

/-- A range over the map 'es' under way: nothing was laid into it since; 'left' is still to come. -/
structure Rng {κ : Type} (K : κ → Value) (es : Array MapEntry) (since : Nat) (seen : Array Nat) (left : List (κ × Value)) : Prop where
  old : ∀ x ∈ es.toList, x.born < since
  born : es.toList.Pairwise fun a b => a.born < b.born
  left : (leftOf es seen).toList.map (fun e => (e.key, e.val)) = left.map (fun x => (K x.1, x.2))

theorem born_nodup {es : List MapEntry} (h : es.Pairwise fun a b => a.born < b.born) : (es.map (·.born)).Nodup := by
  rw [List.nodup_iff_pairwise_ne, List.pairwise_map]
  exact h.imp fun h => Nat.ne_of_lt h
theorem leftOf_push {es : Array MapEntry} {seen : Array Nat} (hb : es.toList.Pairwise fun a b => a.born < b.born) {A B : List MapEntry} {e : MapEntry} (h : (leftOf es seen).toList = A ++ e :: B) : (leftOf es (seen.push e.born)).toList = A ++ B := by
  have e1 : (leftOf es (seen.push e.born)).toList = (leftOf es seen).toList.filter fun x => !decide (x.born = e.born) := by
    unfold leftOf
    rw [Array.toList_filter, Array.toList_filter, List.filter_filter]
    apply List.filter_congr
    intro x _
    rw [Array.contains_push]
    by_cases hx : x.born = e.born
    · simp [hx]
    · simp [hx]
  have hp : (leftOf es seen).toList.Pairwise fun a b => a.born < b.born := by unfold leftOf; rw [Array.toList_filter]; exact hb.sublist List.filter_sublist
  rw [e1, h, List.filter_append, List.filter_cons]
  rw [h, List.pairwise_append] at hp
  have hA : A.filter (fun x => !decide (x.born = e.born)) = A := List.filter_eq_self.2 fun x hx => by
    have := hp.2.2 x hx e (by simp); simp; omega
  have hB : B.filter (fun x => !decide (x.born = e.born)) = B := List.filter_eq_self.2 fun x hx => by
    have := (List.pairwise_cons.1 hp.2.1).1 x hx; simp; omega
  rw [hA, hB]; simp
theorem map_split {α β γ : Type} {f : α → γ} {g : β → γ} : ∀ {A : List α} {e : α} {B : List α} {l : List β}, (A ++ e :: B).map f = l.map g → ∃ pre x post, l = pre ++ x :: post ∧ A.map f = pre.map g ∧ f e = g x ∧ B.map f = post.map g
  | [], e, B, [], h => by simp at h
  | [], e, B, y :: l, h => by
    simp only [List.nil_append, List.map_cons, List.cons.injEq] at h
    exact ⟨[], y, l, rfl, rfl, h.1, h.2⟩
  | a :: A, e, B, [], h => by simp at h
  | a :: A, e, B, y :: l, h => by
    simp only [List.cons_append, List.map_cons, List.cons.injEq] at h
    obtain ⟨pre, x, post, rfl, h1, h2, h3⟩ := map_split h.2
    exact ⟨y :: pre, x, post, rfl, by simp [h.1, h1], h2, h3⟩

section
variable {κ : Type} {P : Program} {n : Nat} {KK : PK} {f : Fr} {ds : List Deferred} {w : World} {d ty : Nat} {p : String} {af : Array Edge} {g : Option (Nat × Bool)} {t size bytes kt et : Nat} {zero : Value} {x y : Operand} {L : List Atom} {K : κ → Value} {es : Array MapEntry} {clock : Nat}

/-- 'range m' -/
theorem op_range {b : Nat} {m : List (κ × Value)} (H : Holds w L) (hb : w.heap[b]? = some (.map es clock)) (hm : MapObj K m (.map es clock)) (tm : TI P t size bytes zero (.map kt et)) (hx : ev f x = .map (some b)) (hn : d < n)
    (k : ∀ r w', Ext none' w w' → Holds w' (own r (.mapIter (some b) clock #[] clock) :: L) → Rng K es clock #[] m → KK (upd f d (.pointer (some ⟨r, 0, none⟩))) ds w') : Op1 P n ⟨some d, .range t x, ty, p, af, g⟩ f ds w KK := by
  refine Op1_val rfl rfl hn (w' := w.alloc (.mapIter (some b) clock #[] clock)) ?_ (k _ _ (Ext.alloc _ _ _) (H.alloc _) ?_)
  · simp only [execOp, hx, Instr.range, Sem.run_bind, tm.run_underlying, Result.andThen, run_getObj_map hb, Sem.run_pure, run_newObj_alloc]
  · obtain ⟨es', c', he, h1, h2, h3, h4⟩ := hm
    cases he
    refine ⟨h4, h3, ?_⟩
    have e : leftOf es #[] = es := by unfold leftOf; rw [Array.filter_eq_self]; intro x _; simp
    rw [e]; exact h1

theorem heap_of_drew {w w1 : World} (h : w1 = w ∨ w1 = w.drew) : w1.heap = w.heap ∧ w1.os = w.os ∧ w1.tape = w.tape ∧ w1.output = w.output := by
  rcases h with rfl | rfl
  · exact ⟨rfl, rfl, rfl, rfl⟩
  · exact ⟨rfl, rfl, rfl, rfl⟩
theorem ext_setBlock {w w1 : World} {r : Nat} {o : Obj} (h : w1 = w ∨ w1 = w.drew) : Ext (fun k => k = r) w (ChangeMaps.setBlock w1 r o) := by
  obtain ⟨h1, h2, h3, h4⟩ := heap_of_drew h
  refine ⟨h2, h3, h4, ?_, fun k hk hM => ?_⟩
  · simp [ChangeMaps.setBlock, h1]
  · simp only [ChangeMaps.setBlock, h1]
    rw [Array.getElem?_setIfInBounds_ne (Ne.symm hM)]
theorem setBlock_at {w w1 : World} {r : Nat} {o : Obj} (h : w1 = w ∨ w1 = w.drew) (hr : r < w.heap.size) : (ChangeMaps.setBlock w1 r o).heap[r]? = some o := by
  obtain ⟨h1, -⟩ := heap_of_drew h
  simp [ChangeMaps.setBlock, h1, hr]

/-- A step: nothing is left, or one that is left. -/
theorem op_next {b r since c0 : Nat} {seen : Array Nat} {left : List (κ × Value)} (H : Holds w L) (i : Nat) (hi : L[i]? = some (own r (.mapIter (some b) since seen c0))) (hb : w.heap[b]? = some (.map es clock)) (hr : Rng K es since seen left) (hsc : since ≤ c0) (hx : ev f x = .pointer (some ⟨r, 0, none⟩)) (hn : d < n)
    (k0 : left = [] → KK (upd f d (.tuple #[.bool false])) ds w)
    (k1 : ∀ e pre u post w', left = pre ++ u :: post → e ∈ es.toList → e.key = K u.1 → e.val = u.2 → Ext (fun k => k = r) w w' → Holds w' (L.set i (own r (.mapIter (some b) since (seen.push e.born) clock))) → Rng K es since (seen.push e.born) (pre ++ post) → KK (upd f d (.tuple #[.bool true, K u.1, u.2])) ds w') :
    Op1 P n ⟨some d, .next x false, ty, p, af, g⟩ f ds w KK := by
  have hr0 := H.getOwn i hi
  rcases run_next_at (P := P) w ty r b since c0 seen es clock hr0 hb hr.old hsc with ⟨h0, hrun⟩ | ⟨e, he, w1, hw1, hrun⟩
  · refine Op1_val rfl rfl hn (w' := w) ?_ (k0 ?_)
    · simp only [execOp, hx, Sem.run_bind, hrun, Result.andThen, Sem.run_pure]
    · have := hr.left
      have h1 : (leftOf es seen).toList = [] := List.eq_nil_of_length_eq_zero (by simpa using h0)
      rw [h1] at this
      simpa using this.symm
  · obtain ⟨A, B, hAB⟩ := List.append_of_mem he
    have hl := hr.left
    rw [hAB] at hl
    obtain ⟨pre, u, post, rfl, h1, h2, h3⟩ := map_split hl
    obtain ⟨h2k, h2v⟩ : e.key = K u.1 ∧ e.val = u.2 := by simpa using h2
    have hmem : e ∈ es.toList := by
      have : e ∈ (leftOf es seen).toList := he
      unfold leftOf at this; rw [Array.toList_filter] at this; exact (List.mem_filter.1 this).1
    refine Op1_val rfl rfl hn (w' := ChangeMaps.setBlock w1 r (.mapIter (some b) since (seen.push e.born) clock)) ?_ (k1 e pre u post _ rfl hmem h2k h2v (ext_setBlock hw1) (H.step i hi rfl (ext_setBlock hw1) (fun _ _ h => h) (own_ok (setBlock_at hw1 (own_lt hr0))) fun _ h => .inl h) ⟨hr.old, hr.born, ?_⟩)
    · simp only [execOp, hx, Sem.run_bind, hrun, Result.andThen, Sem.run_pure, h2k, h2v]
    · rw [leftOf_push hr.born hAB]; simp [h1, h3]
/-- The entry of the step. -/
theorem y_entry {b r since : Nat} {seen : Array Nat} {e : MapEntry} {u v : Value} (hr0 : w.heap[r]? = some (.mapIter (some b) since (seen.push e.born) clock)) (hb : w.heap[b]? = some (.map es clock)) (he : e ∈ es.toList) (hbn : es.toList.Pairwise fun a b => a.born < b.born) (hu : e.key = u) (hv : e.val = v) (hx : ev f x = .pointer (some ⟨r, 0, none⟩)) :
    Yd P ⟨some d, .entry x, ty, p, af, g⟩ f w (.tuple #[u, v]) :=
  ⟨rfl, by
    have := run_entry_at (P := P) w r b since seen es clock e hr0 hb he (born_nodup hbn)
    rw [hu, hv] at this
    simp only [execOp, hx, Sem.run_bind, this, Result.andThen, Sem.run_pure]⟩
variable [DecidableEq κ]
/-- A map of one's own, laid open; and shut again. -/
theorem Holds.mpOpen {b : Nat} {m : List (κ × Value)} (H : Holds w L) (i : Nat) (hi : L[i]? = some (mp K b m)) : ∃ es clock, MapObj K m (.map es clock) ∧ Holds w (L.set i (own b (.map es clock))) := by
  obtain ⟨o, ho, es, clock, rfl, h⟩ := H.get hi
  exact ⟨es, clock, ⟨es, clock, rfl, h⟩, H.step i hi rfl (Ext.refl none' w) (fun _ _ h => h.elim) (own_ok ho) fun _ h => .inl h⟩
theorem Holds.mpShut {b : Nat} {m : List (κ × Value)} (H : Holds w L) (i : Nat) (hi : L[i]? = some (own b (.map es clock))) (hm : MapObj K m (.map es clock)) : Holds w (L.set i (mp K b m)) :=
  H.step i hi rfl (Ext.refl none' w) (fun _ _ h => h.elim) (mp_ok (H.getOwn i hi) hm) fun _ h => .inl h
end
end Go.Wk

/- THE GROUND OF THE WALKS, 22: a range over a function that hands over one of many lists (printed out of the 8th text by mkQ.py): Qp: what may have come; Ee: what has come at the end. -/
namespace Go.Wk
open Go
set_option linter.unusedVariables false
set_option linter.unusedSimpArgs false

/-- What the loop that ranges owes: J pre B: 'pre' has come, the loop stands on the blocks B (and reads blocks below n0). -/
structure RangerQ {α : Type} (P : Program) (enc : α → Value) (Qp : List α → Prop) (n0 : Nat) (l : Nat) (J Jx : List α → (Nat → Prop) → World → Prop) : Prop where
  stable : ∀ pre B w w', J pre B w → w.heap.size ≤ w'.heap.size → w'.os = w.os → w'.tape = w.tape → w'.output = w.output → (∀ k, k < w.heap.size → (B k ∨ k < n0) → w'.heap[k]? = w.heap[k]?) → J pre B w'
  stablex : ∀ pre B w w', Jx pre B w → w.heap.size ≤ w'.heap.size → w'.os = w.os → w'.tape = w.tape → w'.output = w.output → (∀ k, k < w.heap.size → (B k ∨ k < n0) → w'.heap[k]? = w.heap[k]?) → Jx pre B w'
  bnd : ∀ pre B w, J pre B w → n0 ≤ w.heap.size ∧ ∀ k, B k → k < w.heap.size
  bndx : ∀ pre B w, Jx pre B w → n0 ≤ w.heap.size ∧ ∀ k, B k → k < w.heap.size
  round : ∀ pre x B W, J pre B W → Qp (pre ++ [x]) → YieldAt P l (enc x) W fun e W' => ∃ B', Ext B W W' ∧ (∀ k, B' k → B k ∨ W.heap.size ≤ k) ∧
    ((e = .returned (.bool true) ∧ J (pre ++ [x]) B' W') ∨ (e = .returned (.bool false) ∧ Jx (pre ++ [x]) B' W'))

/-- What an iterator owes: function k with what it has captured hands over the list xs; it reads the blocks Z alone. -/
def IterQ {α : Type} (P : Program) (k : FuncId) (cap : List Value) (enc : α → Value) (Qp Ee : List α → Prop) (Z : Nat → Prop) (w : World) : Prop :=
  ∀ l B J Jx, RangerQ P enc Qp w.heap.size l J Jx → J [] B w → (∀ k, Z k → ¬ B k) →
    Calls P k (.func (.yield l) #[] #[] :: cap).toArray w fun e w' => (∃ v, e = .returned v) ∧ ∃ B', Ext B w w' ∧ (∀ k, B' k → B k ∨ w.heap.size ≤ k) ∧ ((∃ xs, Ee xs ∧ J xs B' w') ∨ ∃ pre, Qp pre ∧ Jx pre B' w')

section
variable {α : Type} {P : Program} {enc : α → Value} {Qp Ee : List α → Prop} {l : Nat} {J Jx : List α → (Nat → Prop) → World → Prop} {w W0 W : World} {B0 B : Nat → Prop} {L : List Atom} {pre : List α}
theorem RangerQ.start (hR : RangerQ P enc Qp w.heap.size l J Jx) (hJ : J [] B w) : Holds w [aB B B w, aZ B w] ∧ ItInv w w B B := by
  have hb := (hR.bnd _ _ _ hJ).2
  refine ⟨(((Holds.nil w).cons (a := aZ B w) ⟨⟨Nat.le_refl _, rfl, rfl, rfl, fun _ _ => rfl⟩, fun k h => h.1, shr_stable fun k h => h.1⟩ (by simp)).cons (exc_ok fun k h => hb k (h.elim id id)) ?_), fun k h => .inl h, fun _ _ _ => rfl, Nat.le_refl _, fun k h => hb k (h.elim id id)⟩
  intro b hm _ k hk hF
  simp only [List.mem_singleton] at hm; subst hm
  exact hF.2 (hk.elim id id)
theorem RangerQ.at (hR : RangerQ P enc Qp w.heap.size l J Jx) (hJ : J pre B W0) (hi : ItInv w W0 B0 B) (H : Holds W L) {i j : Nat} (h1 : L[i]? = some (aB B B0 W0)) (h2 : L[j]? = some (aZ B0 w)) : J pre B W := by
  obtain ⟨a, b, c, d, _⟩ := H.get h1
  exact hR.stable pre B W0 W hJ a b c d (hi.agree H h1 h2)
theorem RangerQ.atx (hR : RangerQ P enc Qp w.heap.size l J Jx) (hJ : Jx pre B W0) (hi : ItInv w W0 B0 B) (H : Holds W L) {i j : Nat} (h1 : L[i]? = some (aB B B0 W0)) (h2 : L[j]? = some (aZ B0 w)) : Jx pre B W := by
  obtain ⟨a, b, c, d, _⟩ := H.get h1
  exact hR.stablex pre B W0 W hJ a b c d (hi.agree H h1 h2)
/-- A call of yield. -/
theorem RangerQ.yield (hR : RangerQ P enc Qp w.heap.size l J Jx) (hJ : J pre B W0) (hi : ItInv w W0 B0 B) (H : Holds W L) (i j : Nat) (h1 : L[i]? = some (aB B B0 W0)) (h2 : L[j]? = some (aZ B0 w)) {x : α} (hx : Qp (pre ++ [x])) :
    YieldAt P l (enc x) W fun e W' => (e = .returned (.bool true) ∧ ∃ B', J (pre ++ [x]) B' W' ∧ ItInv w W' B0 B' ∧ Holds W' (L.set i (aB B' B0 W'))) ∨ (e = .returned (.bool false) ∧ ∃ B', Jx (pre ++ [x]) B' W' ∧ ItInv w W' B0 B' ∧ Holds W' (L.set i (aB B' B0 W'))) := by
  obtain ⟨fn, tmps, assign, body, hy, hr⟩ := hR.round pre x B W (hR.at hJ hi H h1 h2) hx
  refine ⟨fn, tmps, assign, body, hy, hr.mono ?_⟩
  rintro e W' ⟨B', hE, hB', hor⟩
  have hlt : ∀ k, B k ∨ B0 k → k < W.heap.size := fun k hk => (H.ok _ (List.mem_of_getElem? h1)).2.1 k hk
  have key : (∀ k, B' k → k < W'.heap.size) → ItInv w W' B0 B' ∧ Holds W' (L.set i (aB B' B0 W')) := fun hb' => by
    have hb2 : ∀ k, B' k ∨ B0 k → k < W'.heap.size := fun k hk => hk.elim (hb' k) fun h => Nat.lt_of_lt_of_le (hlt k (.inr h)) hE.size
    have H' := H.step i h1 rfl (a' := aB B' B0 W') hE (fun k _ hB => .inl hB) (exc_ok hb2) (fun k hk => by
      rcases hk with hk | hk
      · rcases hB' k hk with h | h
        · exact .inl (.inl h)
        · exact .inr h
      · exact .inl (.inr hk))
    refine ⟨⟨fun k hk => ?_, fun k hk hn => ?_, ?_, hb2⟩, H'⟩
    · rcases hB' k hk with h | h
      · exact hi.sub k h
      · obtain ⟨a, _⟩ := H.get h2
        exact .inr (by omega)
    · by_cases hB : B k
      · rcases hi.sub k hB with h | h
        · exact (hn h).elim
        · omega
      · obtain ⟨a, _, _, _, e⟩ := H.get h2
        exact (hE.blk k (by omega) hB).trans (e k ⟨hk, hn⟩)
    · obtain ⟨a, _⟩ := H.get h2
      have := hE.size; omega
  rcases hor with ⟨he, hJ'⟩ | ⟨he, hJ'⟩
  · obtain ⟨k1, k2⟩ := key (hR.bnd _ _ _ hJ').2
    exact .inl ⟨he, B', hJ', k1, k2⟩
  · obtain ⟨k1, k2⟩ := key (hR.bndx _ _ _ hJ').2
    exact .inr ⟨he, B', hJ', k1, k2⟩
/-- The iterator's end: all have come; or the loop was left. -/
theorem RangerQ.done (hR : RangerQ P enc Qp w.heap.size l J Jx) {xs : List α} (hxs : Ee xs) (hJ : J xs B W0) (hi : ItInv w W0 B0 B) (H : Holds W L) (i j : Nat) (h1 : L[i]? = some (aB B B0 W0)) (h2 : L[j]? = some (aZ B0 w)) :
    ∃ B', Ext B0 w W ∧ (∀ k, B' k → B0 k ∨ w.heap.size ≤ k) ∧ ((∃ xs, Ee xs ∧ J xs B' W) ∨ ∃ pre, Qp pre ∧ Jx pre B' W) := ⟨B, ItInv.ext H h2, hi.sub, .inl ⟨xs, hxs, hR.at hJ hi H h1 h2⟩⟩
theorem RangerQ.left (hR : RangerQ P enc Qp w.heap.size l J Jx) (hJ : Jx pre B W0) (hp : Qp pre) (hi : ItInv w W0 B0 B) (H : Holds W L) (i j : Nat) (h1 : L[i]? = some (aB B B0 W0)) (h2 : L[j]? = some (aZ B0 w)) :
    ∃ B', Ext B0 w W ∧ (∀ k, B' k → B0 k ∨ w.heap.size ≤ k) ∧ ((∃ xs, Ee xs ∧ J xs B' W) ∨ ∃ pre, Qp pre ∧ Jx pre B' W) := ⟨B, ItInv.ext H h2, hi.sub, .inr ⟨pre, hp, hR.atx hJ hi H h1 h2⟩⟩
end

section
variable {P : Program} {n : Nat} {Q : PQ} {f : Fr} {ds : List Deferred} {w : World} {L : List Atom}

/-- **THE RULE** for 'for x := range g { .. }' that stands in no other such loop. -/
theorem W_rangeFuncQ {α : Type} {g : Operand} {tp : Nat} {assign body : Code} {k : FuncId} {cap : Array Value} (enc : α → Value) (Qp Ee : List α → Prop) (Z : Nat → Prop) (I : List α → List Atom → Prop) (Ix : Leave → List α → List Atom → Prop)
    (hg : ev f g = .func (.func k) #[] cap) (en : En P k) (htp : tp < n) (H : Holds w L) (hI0 : I [] L)
    (hsh : ∀ pre Ls, I pre Ls → ∀ a ∈ Ls, a.excl = false → ∀ k, a.F k → k < w.heap.size) (hshx : ∀ e pre Ls, Ix e pre Ls → ∀ a ∈ Ls, a.excl = false → ∀ k, a.F k → k < w.heap.size)
    (hZ : ∀ k, Z k → k < w.heap.size ∧ ∀ a ∈ L, a.excl = true → ¬ a.F k)
    (it : ∀ w', Ext none' w w' → IterQ P k cap.toList enc Qp Ee Z w')
    (hbody : ∀ l aL aL' aD aO pre x Ls Wd, I pre Ls → Qp (pre ++ [x]) → Holds Wd (aL :: aD :: aO :: Ls) →
      W P (some l) n assign (thenQ (fun f1 ds1 W1 => ∃ Ls1, Holds W1 (aL :: aD :: aO :: Ls1) ∧ ∀ W2, Holds W2 (aL' :: aD :: aO :: Ls1) → W P (some l) n body (bodyQ aL' aD aO I Ix (pre ++ [x])) f1 ds1 W2) (fun _ _ _ _ => False)) (upd f tp (enc x)) [] Wd)
    (hdone : ∀ D xs Ls W, Ee xs → I xs Ls → Holds W (own D (.deferred (some [])) :: Ls) → Q .normal f ({ target := .collected D, args := #[] } :: ds) W)
    (hexit : ∀ D pre Ls W e, Qp pre → Ix e pre Ls → Holds W (own D (.deferred (some [])) :: Ls) → Q e.out f ({ target := .collected D, args := #[] } :: ds) W) :
    W P none n (.rangeFunc g #[tp] assign body) Q f ds w := fun a ha hd => by
  refine wpIn_rangeFunc fun fn _ => ?_
  let D := w.heap.size
  let l := w.heap.size + 1
  let rec0 (st : LoopState) (j : Option Code) : Loop := { state := st, pending := j, fn, tmps := a.tmps, params := #[tp], assign, body, defers := D }
  let w1 := (w.alloc (.deferred (some []))).alloc (.loop (rec0 .ready none))
  have e1 : Ext none' w w1 := (Ext.alloc _ _ _).trans (Ext.alloc _ _ _)
  have hs1 : w1.heap.size = w.heap.size + 2 := by show ((w.alloc _).alloc _).heap.size = _; simp [World.size_alloc]
  have H1 : Holds w1 (own l (.loop (rec0 .ready none)) :: own D (.deferred (some [])) :: L) := by
    have := (H.alloc (.deferred (some []))).alloc (.loop (rec0 .ready none))
    rw [World.size_alloc] at this; exact this
  -- what the loop stands on
  let J (pre : List α) (B : Nat → Prop) (W : World) : Prop := ∃ Ls, I pre Ls ∧ Holds W (own l (.loop (rec0 .ready none)) :: own D (.deferred (some [])) :: Ls) ∧ (w1.heap.size ≤ W.heap.size) ∧ ∀ k, B k ↔ feet w1.heap.size (own l (.loop (rec0 .ready none)) :: own D (.deferred (some [])) :: Ls) k
  let Jx (pre : List α) (B : Nat → Prop) (W : World) : Prop := ∃ e Ls, Ix e pre Ls ∧ Holds W (own l (.loop (rec0 .done (some e.code))) :: own D (.deferred (some [])) :: Ls) ∧ (w1.heap.size ≤ W.heap.size) ∧ ∀ k, B k ↔ feet w1.heap.size (own l (.loop (rec0 .done (some e.code))) :: own D (.deferred (some [])) :: Ls) k
  have hrg : RangerQ P enc Qp w1.heap.size l J Jx := by
    refine ⟨?_, ?_, ?_, ?_, ?_⟩
    · rintro pre B W W' ⟨Ls, h1, h2, h3, h4⟩ hs ho ht hou hk
      exact ⟨Ls, h1, h2.agree (n0 := w1.heap.size) hs ho ht hou fun k hl hf => hk k hl (hf.imp (h4 k).2 id), by omega, h4⟩
    · rintro pre B W W' ⟨e, Ls, h1, h2, h3, h4⟩ hs ho ht hou hk
      exact ⟨e, Ls, h1, h2.agree (n0 := w1.heap.size) hs ho ht hou fun k hl hf => hk k hl (hf.imp (h4 k).2 id), by omega, h4⟩
    · rintro pre B W ⟨Ls, h1, h2, h3, h4⟩
      exact ⟨h3, fun k hk => by obtain ⟨a, ha, hF, _⟩ := (h4 k).1 hk; exact (h2.ok a ha).2.1 k hF⟩
    · rintro pre B W ⟨e, Ls, h1, h2, h3, h4⟩
      exact ⟨h3, fun k hk => by obtain ⟨a, ha, hF, _⟩ := (h4 k).1 hk; exact (h2.ok a ha).2.1 k hF⟩
    · rintro pre x B W ⟨Ls, h1, h2, h3, h4⟩ hpre
      have hrec := h2.getOwn 0 rfl
      refine ⟨fn, a.tmps.setIfInBounds tp (enc x), assign, body, ?_, ?_⟩
      · rw [run_yield hrec (by simp [rec0])]; simp [rec0]
      -- what lies beside the loop stays
      let aO : Atom := shr (fun k => k < W.heap.size ∧ ¬ B k) W
      have h2O : Holds W (own l (.loop (rec0 .ready none)) :: own D (.deferred (some [])) :: aO :: Ls) := by
        have h := h2.share (fun k => k < W.heap.size ∧ ¬ B k) (fun k h => h.1) (fun b hb hx k hk hF => hk.2 ((h4 k).2 ⟨b, hb, hF, .inl hx⟩))
        exact h.perm (by
          refine List.Perm.trans (List.Perm.swap _ _ _) (List.Perm.cons _ ?_)
          exact List.Perm.swap _ _ _)
      have hb := hbody l (own l (.loop (rec0 .ready none))) (own l (.loop (rec0 .busy none))) (own D (.deferred (some []))) aO pre x Ls W h1 hpre h2O
      refine roundIn_of_wpIn trivial ?_
      have hfe : Fence.wide.inRound l = fe (some l) := rfl
      rw [hfe]
      refine wpIn_mono (hb _ (fits_param ha htp (enc x)) rfl) ?_
      rintro e a1 W1 ⟨f1, hf1, q⟩
      cases e with
      | normal =>
        obtain ⟨Ls1, hL1, hW2⟩ := q
        have hr1 := hL1.getOwn 0 rfl
        refine ⟨_, run_beginRound hr1 rfl, ?_⟩
        have hL2 := hL1.put 0 rfl (.loop (rec0 .busy none))
        refine wpIn_mono (hW2 _ hL2 a1 hf1 rfl) ?_
        -- the round's end
        have fin : ∀ (Ls2 : List Atom) (W3 : World) (st : LoopState) (j : Option Code), (∀ a ∈ Ls2, a.excl = false → ∀ k, a.F k → k < w.heap.size) → Holds W3 (own l (.loop (rec0 .busy none)) :: own D (.deferred (some [])) :: aO :: Ls2) →
            Ext B W (W3.putObj l (.loop (rec0 st j))) ∧ (∀ k, feet w1.heap.size (own l (.loop (rec0 st j)) :: own D (.deferred (some [])) :: Ls2) k → B k ∨ W.heap.size ≤ k) ∧
            Holds (W3.putObj l (.loop (rec0 st j))) (own l (.loop (rec0 st j)) :: own D (.deferred (some [])) :: Ls2) ∧ w1.heap.size ≤ (W3.putObj l (.loop (rec0 st j))).heap.size := by
          intro Ls2 W3 st j hs2 hH3
          have hH4 := hH3.put 0 rfl (.loop (rec0 st j))
          have hO := hH4.get (i := 2) rfl
          obtain ⟨o1, o2, o3, o4, o5⟩ := hO
          refine ⟨⟨o2, o3, o4, o1, fun k hk hB => o5 k ⟨hk, hB⟩⟩, ?_, hH4.sub (List.Sublist.cons_cons _ (List.Sublist.cons_cons _ (List.Sublist.cons _ (List.Sublist.refl _)))), by omega⟩
          rintro k ⟨b, hb, hF, hor⟩
          by_cases hk : W.heap.size ≤ k
          · exact .inr hk
          · refine .inl (Classical.byContradiction fun hB => ?_)
            have hap := getElem_apart hH4.apart (i := 2) (a := aO) rfl
            have hb' : b ∈ (own l (.loop (rec0 st j)) :: own D (.deferred (some [])) :: aO :: Ls2).eraseIdx 2 := by
              simp only [List.eraseIdx_cons_succ, List.eraseIdx_cons_zero]; exact hb
            by_cases hbx : b.excl = true
            · exact hap b hb' (.inr hbx) k ⟨by omega, hB⟩ hF
            · rcases hor with hor | hor
              · exact hbx hor
              · have hbm : b ∈ Ls2 := by
                  simp only [List.mem_cons] at hb
                  rcases hb with rfl | rfl | hb
                  · exact absurd rfl hbx
                  · exact absurd rfl hbx
                  · exact hb
                have := hs2 b hbm (by simpa using hbx) k hF
                omega
        rintro e2 a2 W3 ⟨f3, hf3, q3⟩
        cases e2 with
        | normal =>
          obtain ⟨Ls2, hI2, hH3⟩ := q3
          obtain ⟨g1, g2, g3, g4⟩ := fin Ls2 W3 .ready none (hsh _ _ hI2) hH3
          exact ⟨_, _, run_endRound none (hH3.getOwn 0 rfl), _, g1, g2, .inl ⟨rfl, Ls2, hI2, g3, g4, fun k => Iff.rfl⟩⟩
        | ret =>
          obtain ⟨Ls2, hI2, hH3⟩ := q3
          obtain ⟨g1, g2, g3, g4⟩ := fin Ls2 W3 .done (some .ret) (hshx _ _ _ hI2) hH3
          exact ⟨_, _, run_endRound (some .ret) (hH3.getOwn 0 rfl), _, g1, g2, .inr ⟨rfl, .ret, Ls2, hI2, g3, g4, fun k => Iff.rfl⟩⟩
        | exit i =>
          obtain ⟨Ls2, hI2, hH3⟩ := q3
          obtain ⟨g1, g2, g3, g4⟩ := fin Ls2 W3 .done (some (.exit i)) (hshx _ _ _ hI2) hH3
          exact ⟨_, _, run_endRound (some (.exit i)) (hH3.getOwn 0 rfl), _, g1, g2, .inr ⟨rfl, .exit i, Ls2, hI2, g3, g4, fun k => Iff.rfl⟩⟩
        | goto i =>
          obtain ⟨Ls2, hI2, hH3⟩ := q3
          obtain ⟨g1, g2, g3, g4⟩ := fin Ls2 W3 .done (some (.goto i)) (hshx _ _ _ hI2) hH3
          exact ⟨_, _, run_endRound (some (.goto i)) (hH3.getOwn 0 rfl), _, g1, g2, .inr ⟨rfl, .goto i, Ls2, hI2, g3, g4, fun k => Iff.rfl⟩⟩
        | panic c => exact q3.elim
        | outgrown => exact q3.elim
      | exit i => exact q.elim
      | goto i => exact q.elim
      | ret => exact q.elim
      | panic c => exact q.elim
      | outgrown => exact q.elim
  have hJ0 : J [] (fun k => feet w1.heap.size (own l (.loop (rec0 .ready none)) :: own D (.deferred (some [])) :: L) k) w1 := ⟨L, hI0, H1, Nat.le_refl _, fun k => Iff.rfl⟩
  have hcall := it w1 e1 l _ J Jx hrg hJ0 (by
    rintro k hk ⟨b, hb, hF, hor⟩
    obtain ⟨hk1, hk2⟩ := hZ k hk
    simp only [List.mem_cons] at hb
    rcases hb with rfl | rfl | hb
    · simp only at hF; omega
    · simp only at hF; omega
    · rcases hor with hor | hor
      · exact hk2 b hb hor hF
      · omega)
  refine ⟨l, [{ target := .collected D, args := #[] }], w1, { target := .fn (.func k) cap, args := #[.func (.yield l) #[] #[]] }, w1, k, (.func (.yield l) #[] #[] :: cap.toList).toArray, w1, ?_, ?_, fun _ _ => trivial, ?_, fun h => (by cases h), ?_⟩
  · exact run_enterLoop_outer fn a.tmps #[tp] assign body
  · have hg' : a.eval g = .func (.func k) #[] cap := by rw [ha.eval]; exact hg
    have hm : (#[Operand.const (.func (.yield l) #[] #[])] : Array Operand).map a.eval = #[.func (.yield l) #[] #[]] := by simp; rfl
    simp only [resolve, rangeCall, hg', hm, Deferred.ofValue]
    rfl
  · have := en (#[.func (.yield l) #[] #[]] ++ cap) w1
    simp only [invoke]
    rw [this]; congr 2
    simp
  · refine (callsIn_wide.2 hcall).mono ?_
    rintro e w3 ⟨⟨v, rfl⟩, B', hE, hB', hJ⟩
    have hrec : ∀ st j (Ls : List Atom) W, Holds W (own l (.loop (rec0 st j)) :: own D (.deferred (some [])) :: Ls) → st ≠ .busy → (Instr.endLoop l).run P W = .ok j (W.putObj l (.loop (rec0 .exhausted j))) := fun st j Ls W hH hst => run_endLoop (hH.getOwn 0 rfl) hst
    have hfd : Fits n f { tmps := a.tmps, defers := [{ target := .collected D, args := #[] }] ++ a.defers } := ⟨ha.1, ha.2⟩
    rcases hJ with ⟨xs, hxs, Ls, hI, hH, _, _⟩ | ⟨pre, hpre, e, Ls, hI, hH, _, _⟩
    · refine ⟨none, _, hrec _ _ _ _ hH (by simp), f, hfd, ?_⟩
      have := (hH.put 0 rfl (.loop (rec0 .exhausted none))).tail
      have hq := hdone D xs Ls _ hxs hI this
      simpa [hd] using hq
    · refine ⟨some e.code, _, hrec _ _ _ _ hH (by simp), ?_⟩
      have hH' := (hH.put 0 rfl (.loop (rec0 .exhausted (some e.code)))).tail
      have hq := hexit D pre Ls _ e hpre hI hH'
      cases e with
      | ret => exact wpIn_ret ⟨f, hfd, by simpa [hd, Leave.out] using hq⟩
      | exit i => exact wpIn_exit ⟨f, hfd, by simpa [hd, Leave.out] using hq⟩
      | goto i => exact wpIn_goto ⟨f, hfd, by simpa [hd, Leave.out] using hq⟩
end
end Go.Wk

/- THE GROUND OF THE WALKS, 23: what is made and never written again is pooled; bytes of a text; append onto a slice that is full; texts held against each other. -/
namespace Go.Wk
open Go
set_option linter.unusedVariables false
set_option linter.unusedSimpArgs false

/-- An exclusive part goes into a shared one. -/
theorem Holds.pool {w w0 : World} {L : List Atom} {a : Atom} {Z : Nat → Prop} (H : Holds w (a :: L)) (hx : a.excl = true) (j : Nat) (hj : L[j]? = some (shr Z w0)) : Holds w (L.set j (shr (fun k => Z k ∨ a.F k) w)) := by
  have hlt : j < L.length := (List.getElem?_eq_some_iff.1 hj).1
  have hT := H.tail
  have hap := getElem_apart hT.apart hj
  have hha := (List.pairwise_cons.1 H.apart).1
  have hZ := (hT.ok _ (List.mem_of_getElem? hj)).2.1
  have hA := (H.ok a (by simp)).2.1
  have hb : ∀ k, (Z k ∨ a.F k) → k < w.heap.size := fun k hk => hk.elim (hZ k) (hA k)
  refine ⟨fun b hm => ?_, pairwise_set hT.apart hlt fun b hm e k hk hbk => ?_⟩
  · rcases List.mem_or_eq_of_mem_set hm with hm | rfl
    · exact hT.ok b hm
    · exact ⟨⟨Nat.le_refl _, rfl, rfl, rfl, fun _ _ => rfl⟩, hb, shr_stable hb⟩
  · rcases hk with hk | hk
    · exact hap b hm e k hk hbk
    · rcases e with e | e
      · cases e
      · exact hha b (List.mem_of_mem_eraseIdx hm) (.inr e) k hk hbk
/-- A shared part that is empty. -/
theorem Holds.emptyPool {w : World} {L : List Atom} (H : Holds w L) : Holds w (shr none' w :: L) := H.share none' (fun _ h => h.elim) fun _ _ _ _ h => h.elim

/-- Bytes as numbers. -/
def unkb (b : ByteArray) : List Int := b.data.toList.map fun u => (u.toNat : Int)
theorem unkb_in (b : ByteArray) : ∀ x ∈ unkb b, InK .u8 x := by
  intro x hx
  unfold unkb at hx
  obtain ⟨u, _, rfl⟩ := List.mem_map.1 hx
  have := u.toNat_lt
  unfold InK Lit.wf
  rw [Bool.and_eq_true, decide_eq_true_iff, decide_eq_true_iff]
  have h1 : IntKind.u8.min = 0 := rfl
  have h2 : IntKind.u8.max = 255 := rfl
  omega
theorem kb_unkb (b : ByteArray) : kb (unkb b) = b := by
  obtain ⟨⟨l⟩⟩ := b
  unfold kb unkb
  congr 1
  rw [List.map_map]
  have e : ((fun i : Int => UInt8.ofNat i.toNat) ∘ fun u : UInt8 => (u.toNat : Int)) = id := funext fun u => by simp
  rw [e, List.map_id]
theorem unkb_kb {k : List Int} (h : ∀ x ∈ k, InK .u8 x) : unkb (kb k) = k := kb_inj (unkb_in _) h (kb_unkb _)
theorem unkb_len (b : ByteArray) : (unkb b).length = b.size := by
  unfold unkb; rw [List.length_map]; rfl
theorem kb_size (k : List Int) : (kb k).size = k.length := by
  show ((k.map fun i => UInt8.ofNat i.toNat).toArray).size = _
  rw [List.size_toArray, List.length_map]

theorem SlR_bytes {Z : Nat → Prop} {w : World} {b : Nat} {e : TypeId} {fr : Nat × Nat} {s : ByteArray} {cap : Nat} (h : w.heap[b]? = some (.cells (bytesRow s cap) e fr)) (hZ : Z b) (h1 : s.size ≤ cap) (h2 : cap ≤ maxLen) (h3 : s.size ≤ 140737488351232) :
    SlR (tInt .u8) 1 Z w (.slice (some ⟨b, 0, none⟩) s.size cap) (unkb s) := by
  refine ⟨_, cap, by rw [unkb_len], by rw [unkb_len]; exact h1, fun h => (by cases h), by rw [unkb_len]; omega, h2, fun i x hx => ?_⟩
  have hin := unkb_in s x (List.mem_of_getElem? hx)
  refine ⟨b, 0, [.int .u8 x], rfl, hZ, Cells.unit h ?_, rfl, hin⟩
  unfold unkb at hx
  rw [List.getElem?_map, Option.map_eq_some_iff] at hx
  obtain ⟨u, hu, rfl⟩ := hx
  have hl := (List.getElem?_eq_some_iff.1 hu).1
  unfold bytesRow
  show (_ ++ _)[0 + i * 1]? = _
  rw [Nat.zero_add, Nat.mul_one, Array.getElem?_append_left (by simpa using hl), Array.getElem?_map]
  rw [Array.getElem?_toList] at hu
  rw [hu]; rfl

section
variable {P : Program} {n : Nat} {K : PK} {f : Fr} {ds : List Deferred} {w : World} {L : List Atom} {d t t' ty : Nat} {p : String} {af : Array Edge} {g : Option (Nat × Bool)} {x y : Operand}
/-- []byte(s) -/
theorem op_toBytes (H : Holds w L) {e : TypeId} {s : ByteArray} (hs : P.underlying t = some .string) (hd : P.underlying t' = some (.slice e)) (he : P.underlying e = some (.int .u8)) (hx : ev f x = .string s) (hsz : s.size ≤ 140737488351232) (hn : d < n)
    (k : ∀ b cap w', s.size ≤ cap → cap ≤ maxLen → Holds w' (own b (.cells (bytesRow s cap) e ((bytesRow s cap).size, (bytesRow s cap).size + 1)) :: L) → K (upd f d (.slice (some ⟨b, 0, none⟩) s.size cap)) ds w') : Op1 P n ⟨some d, .convert t t' x, ty, p, af, g⟩ f ds w K := by
  have hr := run_bytes_of_string (P := P) w t t' e s hs hd he
  have hE : Ext none' w w.drew := ⟨rfl, rfl, rfl, Nat.le_refl _, fun _ _ _ => rfl⟩
  have hM : s.size ≤ maxLen := by simp only [maxLen]; omega
  refine Op1_val rfl rfl hn ?_ (k w.heap.size (grownCap w s.size 0 e) _ (grownCap_ge _ _ _ _) (grownCap_le_maxLen _ _ _ _ hM) ((H.ext0 hE).alloc _))
  simp only [execOp, hx, Sem.run_bind, hr, Result.andThen, Sem.run_pure]

/-- append onto a slice that is full: a new row. -/
theorem op_appendNew (H : Holds w L) {tys : Array TypeId} {e size bytes size0 bytes0 : Nat} {z z0 : Value} {dd' : TypeDesc} {v xv : Value} {m k : Nat} {cs news : List Value} (ht : tys = #[t, t]) (htt : ty = t) (ti0 : TI P t size0 bytes0 z0 (.slice e)) (ti : TI P e size bytes z dd') (hz : z.cells.size = size) (hpos : Nat.ble 1 size = true)
    (hx : ev f x = v) (hy : ev f y = xv) (hv : ∃ a, v = .slice a k k) (hold : Src w v k cs) (hcl : cs.length = k * size) (hsrc : Src w xv m news) (hl : news.length = m * size) (h1 : ∀ u ∈ news, u.oneCell' = true) (hm : 0 < m) (hb : (k + m) * bytes ≤ 140737488355328) (h63 : k + m ≤ maxLen) (hn : d < n)
    (kk : ∀ v' w', Holds w' (row e size v' (k + m) (cs ++ news) :: L) → K (upd f d v') ds w') : Op1 P n ⟨some d, .call { callee := .builtin .append, args := #[x, y], argTypes := tys }, ty, p, af, g⟩ f ds w K := by
  subst ht htt
  obtain ⟨i, hi, hs, hz', hby⟩ := ti.i
  have hpos' := Nat.le_of_ble_eq_true hpos
  obtain ⟨a0, rfl⟩ := hv
  obtain ⟨ax, cx, rfl, hxn, hxc⟩ := hsrc
  obtain ⟨a1, c1, e1, hon, hoc⟩ := hold
  injection e1 with e1 _ e2; subst e1 e2
  cases ax with
  | none => have := (hxn rfl).1; omega
  | some A =>
    have key : ∃ v' w', (Builtin.append_ #[ty, ty] ty #[.slice a0 k k, .slice (some A) m cx]).run P w = .ok v' w' ∧ w'.ownsRow w.heap.size e size v' (k + m) (cs ++ news) ∧ Ext none' w w' := by
      cases a0 with
      | none =>
        obtain ⟨rfl, _⟩ := hon rfl
        obtain rfl : cs = [] := List.eq_nil_of_length_eq_zero (by simpa using hcl)
        have hown' : w.ownsRow w.heap.size e size (.slice none 0 0) 0 [] := ⟨by simp, .inl ⟨rfl, rfl⟩⟩
        obtain ⟨v', w', hrun, ho, hg, _⟩ := run_append_own (P := P) w w.heap.size ty ty e i z size bytes ti0.u hi hz' hs hby hz hpos' (.slice none 0 0) 0 [] hown' A m cx news hl (hxc A rfl) h1 h63 hb (Nat.le_refl _)
        exact ⟨v', w', hrun, ho, hg.os, hg.tape, hg.output, hg.size, fun j hj _ => hg.block j hj (by simp [Value.ownBlock])⟩
      | some B =>
        obtain ⟨v', w', hrun, ho, hg⟩ := run_append_arg_grows (P := P) w ty ty e i z size bytes ti0.u hi hz' hs hby hz hpos' B k k cs hcl (hoc B rfl) A m cx news hl (hxc A rfl) (by omega) h63 hb
        exact ⟨v', w', hrun, ho, hg.os, hg.tape, hg.output, hg.size, fun j hj _ => hg.block j hj (by simp)⟩
    obtain ⟨v', w', hrun, ho, hE⟩ := key
    refine Op1_val rfl rfl hn (w' := w') ?_ (kk v' w' (H.new hE (row_ok (ownsRow_base ho)) fun j hj => ?_))
    · simp [execOp, resolve, invoke, builtin, hx, hy, hrun, Result.andThen]
    · rcases ho.2 with ⟨hv, _⟩ | ⟨g2, c2, cur2, hv, hb2, _⟩
      · subst hv; simp [Value.ownBlock] at hj
      · subst hv; simp [Value.ownBlock] at hj; omega
end

theorem Src.dropRow {w : World} {e size : Nat} {a : Option Addr} {n c : Nat} {cs : List Value} (h : w.ownsRow 0 e size (.slice a n c) n cs) (i : Nat) (hi : i ≤ n) : Src w (.slice (cutA a c i size) (n - i) (c - i)) (n - i) (cs.drop (i * size)) := by
  rcases h.2 with ⟨hv, h0⟩ | ⟨g', cap, cur, hv, _, hh, hc, hm, hsz, ht⟩
  · injection hv with h1 h2 h3; subst h1 h2 h3
    rw [cutA_none]
    exact ⟨none, _, rfl, fun _ => ⟨by omega, by omega⟩, fun A e => (by cases e)⟩
  · injection hv with h1 h2 h3; subst h1 h3
    rw [cutA_some]
    have hC : Cells w g' 0 cs := Cells.of hh (by rw [List.drop_zero, h.1]; exact ht)
    by_cases hci : c = i
    · subst hci
      obtain rfl : n = c := by omega
      have e0 : cs.drop (n * size) = [] := List.drop_of_length_le (by rw [h.1]; exact Nat.le_refl _)
      rw [if_pos rfl, e0]
      exact ⟨_, _, rfl, fun h => (by cases h), fun A e j u hu => by simp at hu⟩
    · rw [if_neg hci]
      exact Src.cells (hC.take (i * size) (by rw [List.take_of_length_le (Nat.le_refl _)])) _ _
theorem Src.takeRow {w : World} {e size : Nat} {a : Option Addr} {n c : Nat} {cs : List Value} (h : w.ownsRow 0 e size (.slice a n c) n cs) (i : Nat) (hi : i ≤ n) : Src w (.slice (cutA a i 0 size) i i) i (cs.take (i * size)) := by
  rw [cutA_zero]
  rcases h.2 with ⟨hv, h0⟩ | ⟨g', cap, cur, hv, _, hh, hc, hm, hsz, ht⟩
  · injection hv with h1 h2 h3; subst h1 h2 h3
    exact ⟨none, _, rfl, fun _ => ⟨by omega, by omega⟩, fun A e => (by cases e)⟩
  · injection hv with h1 h2 h3; subst h1 h3
    have hC : Cells w g' 0 cs := Cells.of hh (by rw [List.drop_zero, h.1]; exact ht)
    have hl : i * size ≤ cs.length := by rw [h.1]; exact Nat.mul_le_mul_right _ hi
    exact Src.cells (hC.take 0 (by rw [List.drop_zero, List.length_take, Nat.min_eq_left hl])) _ _

theorem Els.take {α : Type} {T : Ty α} {Z : Nat → Prop} {w : World} {cs : List Value} {xs : List α} (h : Els T Z w cs xs) (k : Nat) (hk : k ≤ xs.length) : Els T Z w (cs.take (k * T.sz)) (xs.take k) := by
  have hle : k * T.sz ≤ cs.length := by rw [h.1]; exact Nat.mul_le_mul_right _ hk
  refine ⟨by rw [List.length_take, List.length_take, Nat.min_eq_left hle, Nat.min_eq_left hk], fun i x hx => ?_⟩
  have hi := (List.getElem?_eq_some_iff.1 hx).1
  rw [List.length_take] at hi
  rw [List.getElem?_take_of_lt (by omega)] at hx
  have := h.2 i x hx
  have hb : i * T.sz + T.sz ≤ k * T.sz := by have := Nat.mul_le_mul_right T.sz (show i + 1 ≤ k by omega); rw [Nat.add_mul] at this; omega
  rwa [List.drop_take, List.take_take, Nat.min_eq_left (by omega)]

theorem flat_drop {α : Type} {g : α → List Value} {m : Nat} (hg : ∀ x, (g x).length = m) : ∀ (l : List α) (i : Nat), (l.flatMap g).drop (i * m) = (l.drop i).flatMap g
  | [], i => by simp
  | x :: l, 0 => by simp
  | x :: l, i + 1 => by
    rw [List.flatMap_cons, List.drop_succ_cons, ← flat_drop hg l i, show (i + 1) * m = (g x).length + i * m by rw [hg, Nat.add_mul]; omega, List.drop_length_add_append]
theorem flat_take {α : Type} {g : α → List Value} {m : Nat} (hg : ∀ x, (g x).length = m) : ∀ (l : List α) (i : Nat), (l.flatMap g).take (i * m) = (l.take i).flatMap g
  | [], i => by simp
  | x :: l, 0 => by simp
  | x :: l, i + 1 => by
    rw [List.flatMap_cons, List.take_succ_cons, List.flatMap_cons, ← flat_take hg l i, show (i + 1) * m = (g x).length + i * m by rw [hg, Nat.add_mul]; omega, List.take_length_add_append]

/-! ### Texts held against each other -/
theorem bytesLess_lt : ∀ {a b : List UInt8}, Op.bytesLess a b = true ↔ a < b
  | a, [] => by cases a <;> simp [Op.bytesLess]
  | [], b :: y => by simp [Op.bytesLess]
  | a :: x, b :: y => by
    rw [Op.bytesLess, List.cons_lt_cons_iff, Bool.or_eq_true, Bool.and_eq_true, decide_eq_true_iff, beq_iff_eq, bytesLess_lt]
def bLt (a b : ByteArray) : Prop := a.data.toList < b.data.toList
instance (a b : ByteArray) : Decidable (bLt a b) := inferInstanceAs (Decidable (a.data.toList < b.data.toList))
theorem bLess_dec (a b : ByteArray) : Op.bytesLess a.toList b.toList = decide (bLt a b) := by
  rw [ByteArray.toList_eq, ByteArray.toList_eq, Bool.eq_iff_iff, bytesLess_lt, decide_eq_true_iff]; exact Iff.rfl
section
variable {P : Program} {f : Fr} {w : World} {d t t' ty : Nat} {p : String} {af : Array Edge} {g : Option (Nat × Bool)} {x y : Operand}
theorem y_lssS {a b : ByteArray} (hx : ev f x = .string a) (hy : ev f y = .string b) : Yd P ⟨some d, .binOp .lss t x y t', ty, p, af, g⟩ f w (.bool (decide (bLt a b))) :=
  ⟨rfl, by
    have := bLess_dec a b
    simp [execOp, hx, hy, eqGuard, binOp, Op.stringOp, Result.andThen]
    simpa using this⟩
theorem y_leqS {a b : ByteArray} (hx : ev f x = .string a) (hy : ev f y = .string b) : Yd P ⟨some d, .binOp .leq t x y t', ty, p, af, g⟩ f w (.bool (decide (bLt a b ∨ a = b))) :=
  ⟨rfl, by
    have h1 := bLess_dec a b
    have h2 : (a.toList == b.toList) = decide (a = b) := by
      rw [Bool.eq_iff_iff, decide_eq_true_iff, beq_iff_eq]
      exact ⟨fun h => bytes_toList_inj h, fun h => by rw [h]⟩
    have h3 : (Op.bytesLess a.toList b.toList || a.toList == b.toList) = decide (bLt a b ∨ a = b) := by rw [h1, h2]; simp
    simp only [execOp, hx, hy, eqGuard, binOp, Op.stringOp, h3]
    rfl⟩
end
end Go.Wk

/- THE GROUND OF THE WALKS, 24: the order of texts; rows of texts that rise are known by their members. -/
namespace Go.Wk
open Go

theorem bLt_irrefl (a : ByteArray) : ¬ bLt a a := List.lt_irrefl _
theorem bLt_trans {a b c : ByteArray} (h : bLt a b) (k : bLt b c) : bLt a c := List.lt_trans h k
theorem bytes_ext {a b : ByteArray} (h : a.data.toList = b.data.toList) : a = b := by
  obtain ⟨⟨a⟩⟩ := a; obtain ⟨⟨b⟩⟩ := b; simp at h; subst h; rfl
theorem bLt_tri {a b : ByteArray} (h : ¬ bLt a b) (k : ¬ bLt b a) : a = b := bytes_ext (List.le_antisymm (List.not_lt.1 k) (List.not_lt.1 h))
theorem bLt_asymm {a b : ByteArray} (h : bLt a b) : ¬ bLt b a := fun k => bLt_irrefl a (bLt_trans h k)
theorem bLt_of_le {a b : ByteArray} (h : a.data.toList ≤ b.data.toList) (hne : a ≠ b) : bLt a b := Classical.byContradiction fun hn => hne (bytes_ext (List.le_antisymm h (List.not_lt.1 hn)))
theorem not_bLt_of_le {a b : ByteArray} (h : a.data.toList ≤ b.data.toList) : ¬ bLt b a := List.not_lt.2 h
/-- Two rows that rise, with the same members, are one. -/
theorem rise_unique {α : Type} {lt : α → α → Prop} (hi : ∀ a, ¬ lt a a) (ht : ∀ {a b c}, lt a b → lt b c → lt a c) {l l' : List α} (h : l.Pairwise lt) (h' : l'.Pairwise lt) (hm : ∀ a, a ∈ l ↔ a ∈ l') : l = l' := by
  have nd : ∀ {l : List α}, l.Pairwise lt → l.Nodup := fun h => List.nodup_iff_pairwise_ne.2 (List.Pairwise.imp (S := fun a b => a ≠ b) (fun {a b} (h : lt a b) (e : a = b) => hi a (by rw [← e] at h; exact h)) h)
  exact List.Perm.eq_of_pairwise (fun a b _ _ h1 h2 => (hi a (ht h1 h2)).elim) h h' ((List.perm_ext_iff_of_nodup (nd h) (nd h')).2 hm)
theorem rise_nodup {α : Type} {lt : α → α → Prop} (hi : ∀ a, ¬ lt a a) {l : List α} (h : l.Pairwise lt) : l.Nodup := List.nodup_iff_pairwise_ne.2 (List.Pairwise.imp (S := fun a b => a ≠ b) (fun {a b} (h : lt a b) (e : a = b) => hi a (by rw [← e] at h; exact h)) h)
/-- A row put in order in which nothing stands twice rises. -/
theorem rise_of_le {l : List ByteArray} (h : l.Pairwise fun a b => a.data.toList ≤ b.data.toList) (hn : l.Nodup) : l.Pairwise bLt := by
  rw [List.nodup_iff_pairwise_ne] at hn
  exact (h.and hn).imp fun {a b} h => bLt_of_le h.1 h.2
abbrev kLt (a b : List Int) : Prop := bLt (kb a) (kb b)
/-- One put between those below it and those above it. -/
theorem rise_ins {α : Type} {lt : α → α → Prop} {A B : List α} {x : α} (h : (A ++ B).Pairwise lt) (h1 : ∀ a ∈ A, lt a x) (h2 : ∀ b ∈ B, lt x b) : (A ++ x :: B).Pairwise lt := by
  rw [List.pairwise_append] at h ⊢
  refine ⟨h.1, List.pairwise_cons.2 ⟨h2, h.2.1⟩, fun a ha b hb => ?_⟩
  rcases List.mem_cons.1 hb with rfl | hb
  · exact h1 a ha
  · exact h.2.2 a ha b hb
end Go.Wk

/- THE GROUND OF THE WALKS, 25: scopes of labels; bytes.Compare's entry; deletions while a map is ranged over. -/
namespace Go.Wk
open Go
set_option linter.unusedVariables false
set_option linter.unusedSimpArgs false

def noGotoQ (Q : PQ) : PQ
  | .goto _, _, _, _ => False
  | e, f, ds, w => Q e f ds w
section
variable {P : Program} {l : Option Nat} {n : Nat} {Q : PQ} {f : Fr} {ds : List Deferred} {w : World}
theorem stepR_scope {b : Frame} {a : Act} {k : List Item} {cs : List Frame} {c : Code} : step P (lone (b.atR a (.code (.scope c) :: k)) cs w) = .next (lone (b.atR a (.code c :: .inScope c :: k)) cs w) :=
  step_lone_go (by simp [stepG, stepG.exec, Frame.atR])
theorem stepR_inScope {b : Frame} {a : Act} {k : List Item} {cs : List Frame} {c : Code} : step P (lone (b.atR a (.inScope c :: k)) cs w) = .next (lone (b.atR a k) cs w) :=
  step_lone_go (by simp [stepG, stepG.exec, Frame.atR])
/-- A scope of labels to which nothing goes. -/
theorem W_scope {c : Code} (h : W P l n c (noGotoQ Q) f ds w) : W P l n (.scope c) Q f ds w := by
  intro a ha hd b k cs hro hb hr
  obtain ⟨e, a₁, w₁, ⟨f₁, hf₁, hq⟩, harr⟩ := h a ha hd b (.inScope c :: k) cs hro hb hr
  cases e with
  | normal => exact ⟨.normal, a₁, w₁, ⟨f₁, hf₁, hq⟩, .of_steps (.one (fenced_calm hb hr rfl) stepR_scope) (StepsIn.trans harr (.one (fenced_calm hb hr rfl) stepR_inScope))⟩
  | exit id => exact ⟨.exit id, a₁, w₁, ⟨f₁, hf₁, hq⟩, .of_steps (.one (fenced_calm hb hr rfl) stepR_scope) ⟨fun k' hk => harr.1 k' (by simpa [exitTo] using hk), fun h1 h2 => harr.2 h1 (by simpa [exitTo] using h2)⟩⟩
  | goto id => exact hq.elim
  | ret => exact ⟨.ret, a₁, w₁, ⟨f₁, hf₁, hq⟩, .of_steps (.one (fenced_calm hb hr rfl) stepR_scope) harr⟩
  | panic ch => exact ⟨.panic ch, a₁, w₁, ⟨f₁, hf₁, hq⟩, .of_steps (.one (fenced_calm hb hr rfl) stepR_scope) harr⟩
  | outgrown => exact ⟨.outgrown, a₁, w₁, ⟨f₁, hf₁, hq⟩, .of_steps (.one (fenced_calm hb hr rfl) stepR_scope) harr⟩
end

/-! ### bytes.Compare's entry -/
theorem run_bytesOf {P : Program} {Z : Nat → Prop} {w : World} {v : Value} {k : List Int} (h : SlR (tInt .u8) 1 Z w v k) : (Extern.Bytes.bytesOf v).run P w = .ok (kb k) w := by
  by_cases hk : k = []
  · subst hk
    obtain ⟨a, c, rfl, _⟩ := h
    cases a with
    | none => rfl
    | some a => rfl
  · obtain ⟨b, o, c, news, rfl, _, hc, hE⟩ := h.row hk
    have hn := hE.ints
    have := Lib.run_loadBytesX (P := P) w k ⟨b, o, none⟩ .empty (fun j x hx => by
      rw [add_spot]; exact hc.cell j (by rw [hn, List.getElem?_map, hx]; rfl))
    show (Extern.Bytes.loadBytes ⟨b, o, none⟩ k.length .empty).run P w = _
    rw [this]
    congr 1
    show (⟨#[] ++ (Lib.bytesOf k).toArray⟩ : ByteArray) = _
    unfold kb Lib.bytesOf
    simp
theorem cmpB_lt : ∀ {a b : List UInt8}, (Lib.compareBytes a b < 0 ↔ a < b) ∧ (Lib.compareBytes a b = 0 ↔ a = b)
  | [], [] => by simp [Lib.compareBytes]
  | [], b :: y => by simp [Lib.compareBytes]
  | a :: x, [] => by simp [Lib.compareBytes]
  | a :: x, b :: y => by
    obtain ⟨h1, h2⟩ := cmpB_lt (a := x) (b := y)
    unfold Lib.compareBytes
    by_cases hab : a < b
    · have hne : a ≠ b := fun e => UInt8.lt_irrefl _ (e ▸ hab)
      simp [hab, hne, List.cons_lt_cons_iff]
    · by_cases hba : b < a
      · have hne : a ≠ b := fun e => UInt8.lt_irrefl _ (e ▸ hba)
        simp [hab, hba, hne, List.cons_lt_cons_iff]
      · have he : a = b := UInt8.le_antisymm (UInt8.not_lt.1 hba) (UInt8.not_lt.1 hab)
        subst he
        simp [List.cons_lt_cons_iff, h1, h2]
/-- How two keys stand to one another. -/
def cmpK (a b : List Int) : Int := Lib.compareBytes (kb a).data.toList (kb b).data.toList
theorem cmpK_lt {a b : List Int} : cmpK a b < 0 ↔ bLt (kb a) (kb b) := cmpB_lt.1
theorem cmpK_eq {a b : List Int} : cmpK a b = 0 ↔ kb a = kb b := by
  unfold cmpK; rw [cmpB_lt.2]; exact ⟨bytes_ext, fun h => by rw [h]⟩
theorem cmpK_ge {a b : List Int} : 0 ≤ cmpK a b ↔ ¬ bLt (kb a) (kb b) := by rw [← cmpK_lt]; omega
/-- A call of bytes.Compare's entry (a function without a body). -/
theorem op_compare {P : Program} {n : Nat} {K : PK} {f : Fr} {ds : List Deferred} {w : World} {d ty : Nat} {p : String} {af : Array Edge} {g : Option (Nat × Bool)} {x y : Operand} {tys : Array TypeId} (k : FuncId) {fn : Func} {Z Z' : Nat → Prop} {va vb : Value} {a b : List Int} (hf : P.funcs[k]? = some fn) (hname : (fn.name == "runtime.NumGoroutine") = false)
    (hb : fn.body.isNone = true) (hn : Extern.findNext fn = none) (he : Extern.find fn = some Extern.BytealgCompare.compare) (hx : ev f x = va) (hy : ev f y = vb) (h1 : SlR (tInt .u8) 1 Z w va a) (h2 : SlR (tInt .u8) 1 Z' w vb b) (hd : d < n)
    (kk : K (upd f d (.int .i64 (cmpK a b))) ds w) : Op1 P n ⟨some d, .call { callee := .value (.func k), args := #[x, y], argTypes := tys }, ty, p, af, g⟩ f ds w K := by
  refine Op1_val rfl rfl hd (w' := w) ?_ kk
  have hr : (Extern.BytealgCompare.compare #[va, vb]).run P w = .ok (.int .i64 (cmpK a b)) w := by
    change Sem.run P (do pure (goInt (Extern.BytealgCompare.cmp (← Extern.Bytes.bytesOf va) (← Extern.Bytes.bytesOf vb)))) w = _
    simp only [Sem.run_bind, run_bytesOf h1, run_bytesOf h2, Sem.run_pure, Result.andThen]
    rw [Lib.cmp_eq]
    rfl
  have hc := run_callFunc_extern (P := P) (f := k) hf hname hb hn he #[va, vb] w
  rw [hr] at hc
  have hfn : ev f (.func k) = .func (.func k) #[] #[] := rfl
  simp [execOp, resolve, Deferred.ofValue, invoke, hx, hy, hfn, hc, Result.andThen]

/-! ### Look-ups whose answer is known -/
section
variable {κ : Type} [DecidableEq κ] {P : Program} {f : Fr} {w : World} {d ty : Nat} {p : String} {af : Array Edge} {g : Option (Nat × Bool)} {t kt et size bytes size' bytes' : Nat} {zero zero' : Value} {dd : TypeDesc} {x y : Operand} {L : List Atom} {K : κ → Value} {b : Nat} {m : List (κ × Value)} {k : κ}
theorem y_lookupOkS {v : Value} (hg : mget m k = some v) (H : Holds w L) (i : Nat) (hi : L[i]? = some (mp K b m)) (tm : TI P t size bytes zero (.map kt et)) (te : TI P et size' bytes' zero' dd) (hk : KeyOK P kt K) (hx : ev f x = .map (some b)) (hy : ev f y = K k) :
    Yd P ⟨some d, .lookup t x y true, ty, p, af, g⟩ f w (.tuple #[v, .bool true]) := by
  have := y_lookupOk (d := d) (ty := ty) (p := p) (af := af) (g := g) H i hi tm te hk hx hy; rwa [hg] at this
theorem y_lookupOkN (hg : mget m k = none) (H : Holds w L) (i : Nat) (hi : L[i]? = some (mp K b m)) (tm : TI P t size bytes zero (.map kt et)) (te : TI P et size' bytes' zero' dd) (hk : KeyOK P kt K) (hx : ev f x = .map (some b)) (hy : ev f y = K k) :
    Yd P ⟨some d, .lookup t x y true, ty, p, af, g⟩ f w (.tuple #[zero', .bool false]) := by
  have := y_lookupOk (d := d) (ty := ty) (p := p) (af := af) (g := g) H i hi tm te hk hx hy; rwa [hg] at this
theorem y_lookupS {v : Value} (hg : mget m k = some v) (H : Holds w L) (i : Nat) (hi : L[i]? = some (mp K b m)) (tm : TI P t size bytes zero (.map kt et)) (te : TI P et size' bytes' zero' dd) (hk : KeyOK P kt K) (hx : ev f x = .map (some b)) (hy : ev f y = K k) :
    Yd P ⟨some d, .lookup t x y false, ty, p, af, g⟩ f w v := by
  have := y_lookup (d := d) (ty := ty) (p := p) (af := af) (g := g) H i hi tm te hk hx hy; rwa [hg] at this
theorem y_lookupN (hg : mget m k = none) (H : Holds w L) (i : Nat) (hi : L[i]? = some (mp K b m)) (tm : TI P t size bytes zero (.map kt et)) (te : TI P et size' bytes' zero' dd) (hk : KeyOK P kt K) (hx : ev f x = .map (some b)) (hy : ev f y = K k) :
    Yd P ⟨some d, .lookup t x y false, ty, p, af, g⟩ f w zero' := by
  have := y_lookup (d := d) (ty := ty) (p := p) (af := af) (g := g) H i hi tm te hk hx hy; rwa [hg] at this
end

/-! ### Deletions while a map is ranged over -/
section
variable {κ : Type} [DecidableEq κ] {P : Program} {n : Nat} {PKk : PK} {f : Fr} {ds : List Deferred} {w : World} {d ty : Nat} {p : String} {af : Array Edge} {g : Option (Nat × Bool)} {t kt et size bytes : Nat} {zero : Value} {x y : Operand} {L : List Atom} {K : κ → Value} {b : Nat} {m : List (κ × Value)} {k : κ} {es : Array MapEntry} {c : Nat}
theorem filter_erase {α : Type} {q : α → Bool} : ∀ {l : List α} {j : Nat}, (∀ x, l[j]? = some x → q x = false) → (l.eraseIdx j).filter q = l.filter q
  | [], _, _ => by simp
  | x :: l, 0, h => by rw [List.eraseIdx_cons_zero, List.filter_cons, h x rfl]; simp
  | x :: l, j + 1, h => by
    rw [List.eraseIdx_cons_succ, List.filter_cons, List.filter_cons, filter_erase (l := l) (j := j) fun y hy => h y (by simpa using hy)]
theorem op_deleteO (H : Holds w L) (i : Nat) (hi : L[i]? = some (own b (.map es c))) (hm : MapObj K m (.map es c)) {tys : Array TypeId} (ht : tys[0]? = some t) (tm : TI P t size bytes zero (.map kt et)) (hk : KeyOK P kt K) {dst : Option Nat} (hd : ∀ d, dst = some d → d < n) (hx : ev f x = .map (some b)) (hy : ev f y = K k)
    (kk : ∀ es' w', Holds w' (L.set i (own b (.map es' c))) → MapObj K (mdel m k) (.map es' c) → (∀ since seen left, (∀ e ∈ es.toList, e.key = K k → seen.contains e.born = true) → Rng K es since seen left → Rng K es' since seen left) → PKk (updO f dst (.tuple #[])) ds w') :
    Op1 P n ⟨dst, .call { callee := .builtin .delete, args := #[x, y], argTypes := tys }, ty, p, af, g⟩ f ds w PKk := by
  have hb := H.getOwn i hi
  obtain ⟨es0, c0, e0, he, hnd, hpw, hcl⟩ := hm
  cases e0
  have hlen : es.size = m.length := by have := congrArg List.length he; simpa using this
  cases hf : m.findIdx? fun x => decide (x.1 = k) with
  | none =>
    have hnin := findIdx_mem.1 hf
    have hset : mdel m k = m := by
      unfold mdel; rw [List.filter_eq_self]; intro u hu
      simp only [decide_eq_true_eq]; rintro rfl; exact hnin (List.mem_map.2 ⟨u, hu, rfl⟩)
    refine Op1_valO rfl hd (v := .tuple #[]) (w' := w.putObj b (.map es c)) ?_ (kk es _ (H.put i hi _) ⟨es, c, rfl, by rw [hset]; exact he, by rw [hset]; exact hnd, hpw, hcl⟩ fun _ _ _ _ h => h)
    simp only [execOp, resolve, invoke, builtin, Sem.run_bind, Sem.run_pure, Result.andThen, List.map_toArray, List.map_cons, List.map_nil, hx, hy, Builtin.delete_, ht, tm.run_underlying, List.getElem?_toArray, List.getElem?_cons_zero, List.getElem?_cons_succ]
    simp [run_getObj_map hb, hk.chk, run_findKey hk k he, hf, run_setObj_map _ hb, Result.andThen, tm.run_underlying]
  | some j =>
    obtain ⟨hj, hjk, -⟩ := List.findIdx?_eq_some_iff_getElem.1 hf
    have hjk' : m[j].1 = k := of_decide_eq_true hjk
    have hje : j < es.size := by omega
    have e1 : (es.eraseIdxIfInBounds j).toList = es.toList.eraseIdx j := by simp [Array.eraseIdxIfInBounds, hje]
    have hkey : es[j].key = K k := by
      have := congrArg (·[j]?) he
      simp [hj, hje] at this
      rw [this.1, hjk']
    refine Op1_valO rfl hd (v := .tuple #[]) (w' := w.putObj b (.map (es.eraseIdxIfInBounds j) c)) ?_ (kk (es.eraseIdxIfInBounds j) _ (H.put i hi _) ⟨_, c, rfl, ?_, ?_, ?_, ?_⟩ ?_)
    · simp only [execOp, resolve, invoke, builtin, Sem.run_bind, Sem.run_pure, Result.andThen, List.map_toArray, List.map_cons, List.map_nil, hx, hy, Builtin.delete_, ht, tm.run_underlying, List.getElem?_toArray, List.getElem?_cons_zero, List.getElem?_cons_succ]
      simp [run_getObj_map hb, hk.chk, run_findKey hk k he, hf, run_setObj_map _ hb, Result.andThen, tm.run_underlying, List.getElem?_eq_getElem hj]
    · rw [e1, ← eraseIdx_map', he, ← erase_key hnd hf, eraseIdx_map']
    · rw [← erase_key hnd hf, ← eraseIdx_map']
      exact hnd.sublist (List.eraseIdx_sublist _ _)
    · rw [e1]; exact hpw.sublist (List.eraseIdx_sublist _ _)
    · rw [e1]; intro e hm; exact hcl e (List.mem_of_mem_eraseIdx hm)
    · intro since seen left hseen hr
      refine ⟨fun e hm => hr.old e (by rw [e1] at hm; exact List.mem_of_mem_eraseIdx hm), by rw [e1]; exact hr.born.sublist (List.eraseIdx_sublist _ _), ?_⟩
      have := hr.left
      unfold leftOf at this ⊢
      rw [Array.toList_filter] at this ⊢
      rw [e1, filter_erase]
      · exact this
      · intro e hej
        have h1 : es[j]? = some e := by simpa using hej
        have h2 : e = es[j] := by rw [Array.getElem?_eq_getElem hje] at h1; exact (Option.some.inj h1).symm
        have := hseen es[j] (by simp) hkey
        rw [h2, this]; rfl
end
end Go.Wk
namespace Go.Wk
open Go
section
variable {P : Program} {f : Fr} {w : World} {d t t' ty : Nat} {p : String} {af : Array Edge} {g : Option (Nat × Bool)} {x y : Operand}
theorem y_geqS {a b : ByteArray} (hx : ev f x = .string a) (hy : ev f y = .string b) : Yd P ⟨some d, .binOp .geq t x y t', ty, p, af, g⟩ f w (.bool (decide (¬ bLt a b))) :=
  ⟨rfl, by
    have h3 : (!(Op.bytesLess a.toList b.toList)) = decide (¬ bLt a b) := by rw [bLess_dec]; simp
    simp only [execOp, hx, hy, eqGuard, binOp, Op.stringOp, h3]
    rfl⟩
theorem y_geqST {a b : ByteArray} (h : ¬ bLt a b) (hx : ev f x = .string a) (hy : ev f y = .string b) : Yd P ⟨some d, .binOp .geq t x y t', ty, p, af, g⟩ f w (.bool true) := by
  have := y_geqS (P := P) (w := w) (d := d) (t := t) (t' := t') (ty := ty) (p := p) (af := af) (g := g) hx hy; rwa [decide_eq_true h] at this
theorem y_geqSF {a b : ByteArray} (h : bLt a b) (hx : ev f x = .string a) (hy : ev f y = .string b) : Yd P ⟨some d, .binOp .geq t x y t', ty, p, af, g⟩ f w (.bool false) := by
  have := y_geqS (P := P) (w := w) (d := d) (t := t) (t' := t') (ty := ty) (p := p) (af := af) (g := g) hx hy; rwa [decide_eq_false (fun hn => hn h)] at this
theorem y_lssST {a b : ByteArray} (h : bLt a b) (hx : ev f x = .string a) (hy : ev f y = .string b) : Yd P ⟨some d, .binOp .lss t x y t', ty, p, af, g⟩ f w (.bool true) := by
  have := y_lssS (P := P) (w := w) (d := d) (t := t) (t' := t') (ty := ty) (p := p) (af := af) (g := g) hx hy; rwa [decide_eq_true h] at this
theorem y_lssSF {a b : ByteArray} (h : ¬ bLt a b) (hx : ev f x = .string a) (hy : ev f y = .string b) : Yd P ⟨some d, .binOp .lss t x y t', ty, p, af, g⟩ f w (.bool false) := by
  have := y_lssS (P := P) (w := w) (d := d) (t := t) (t' := t') (ty := ty) (p := p) (af := af) (g := g) hx hy; rwa [decide_eq_false h] at this
theorem y_eqlST {a b : ByteArray} (h : a = b) (hx : ev f x = .string a) (hy : ev f y = .string b) : Yd P ⟨some d, .binOp .eql t x y t', ty, p, af, g⟩ f w (.bool true) := by
  have := y_eqlS (P := P) (w := w) (d := d) (t := t) (t' := t') (ty := ty) (p := p) (af := af) (g := g) hx hy; rwa [decide_eq_true h] at this
theorem y_eqlSF {a b : ByteArray} (h : a ≠ b) (hx : ev f x = .string a) (hy : ev f y = .string b) : Yd P ⟨some d, .binOp .eql t x y t', ty, p, af, g⟩ f w (.bool false) := by
  have := y_eqlS (P := P) (w := w) (d := d) (t := t) (t' := t') (ty := ty) (p := p) (af := af) (g := g) hx hy; rwa [decide_eq_false h] at this
theorem y_neqST {a b : ByteArray} (h : a ≠ b) (hx : ev f x = .string a) (hy : ev f y = .string b) : Yd P ⟨some d, .binOp .neq t x y t', ty, p, af, g⟩ f w (.bool true) := by
  have := y_neqS (P := P) (w := w) (d := d) (t := t) (t' := t') (ty := ty) (p := p) (af := af) (g := g) hx hy; rwa [decide_eq_true h] at this
theorem y_neqSF {a b : ByteArray} (h : a = b) (hx : ev f x = .string a) (hy : ev f y = .string b) : Yd P ⟨some d, .binOp .neq t x y t', ty, p, af, g⟩ f w (.bool false) := by
  have := y_neqS (P := P) (w := w) (d := d) (t := t) (t' := t') (ty := ty) (p := p) (af := af) (g := g) hx hy; rwa [decide_eq_false (fun hn => hn h)] at this
end
end Go.Wk

/- THE GROUND OF THE WALKS, 26: bytes that are written out; a slice of bytes on one's own block. -/
namespace Go.Wk
open Go
set_option linter.unusedVariables false
set_option linter.unusedSimpArgs false

section
variable {P : Program} {n : Nat} {K : PK} {f : Fr} {ds : List Deferred} {w : World} {L : List Atom} {d t ty : Nat} {p : String} {af : Array Edge} {g : Option (Nat × Bool)} {x : Operand}
theorem freeze_put {b : Nat} {C : Array Value} {e : TypeId} (h : w.heap[b]? = some (.cells C e (0, 0))) : w.freeze ⟨b, C.size, none⟩ 1 = w.putObj b (.cells C e (C.size, C.size + 1)) := by
  unfold World.freeze World.putObj
  rw [if_neg (by decide)]
  congr 1
  apply Array.ext_getElem?
  intro j
  by_cases hj : b = j
  · subst hj
    rw [Array.getElem?_modify, Array.getElem?_setIfInBounds, if_pos rfl, if_pos rfl, if_pos (own_lt h), h]
    rfl
  · rw [Array.getElem?_modify, if_neg hj, Array.getElem?_setIfInBounds_ne hj]
/-- []byte("..") of a text that is written out. -/
theorem op_convSame (H : Holds w L) (i : Nat) {e b m c : Nat} {cs : List Value} (hi : L[i]? = some (row e 1 (.slice (some ⟨b, 0, none⟩) m c) m cs)) (ht : P.underlying t = some (.slice e)) (he : P.underlying e = some (.int .u8)) (hx : ev f x = .slice (some ⟨b, 0, none⟩) m c) (hn : d < n)
    (k : ∀ C fr w', C.toList.take m = cs → m ≤ c → c ≤ maxLen → Holds w' (L.set i (own b (.cells C e fr))) → K (upd f d (.slice (some ⟨b, 0, none⟩) m c)) ds w') : Op1 P n ⟨some d, .convert t t x, ty, p, af, g⟩ f ds w K := by
  obtain ⟨hl, hor⟩ := H.get hi
  rcases hor with ⟨hv, _⟩ | ⟨g', cap, cur, hv, _, hh, hc, hm, hsz, htk⟩
  · cases hv
  · injection hv with h1 h2 h3; injection h1 with h1; injection h1 with h1 _ _; subst h1 h3
    have hsh : w.shape? b = some (e, cur.size) := by unfold World.shape?; rw [hh]
    have hrun : (convert t t (.slice (some ⟨b, 0, none⟩) m c)).run P w = .ok (.slice (some ⟨b, 0, none⟩) m c) (w.putObj b (.cells cur e (cur.size, cur.size + 1))) := by
      rw [← freeze_put hh]
      simp [convert, run_underlying ht, run_underlying he, markStringish, Result.andThen, Sem.run, shape, hsh, freeze]
    refine Op1_val rfl rfl hn ?_ (k cur (cur.size, cur.size + 1) _ (by simpa using htk) hc hm (H.step i hi rfl (Ext.put w b _) (fun _ _ hk => by subst hk; simp [Value.ownBlock]) (own_ok (World.putObj_heap_same (own_lt hh))) fun k hk => .inl (by simp only at hk; subst hk; simp [Value.ownBlock])))
    simp only [execOp, hx, Sem.run_bind, hrun, Result.andThen, Sem.run_pure]
/-- A slice of bytes on a block. -/
theorem SlR_block {Z : Nat → Prop} {b m c : Nat} {e : TypeId} {C : Array Value} {fr : Nat × Nat} {k : List Int} (h : w.heap[b]? = some (.cells C e fr)) (hC : C.toList.take m = k.map (Value.int .u8)) (hk : ∀ x ∈ k, InK .u8 x) (hm : m = k.length) (hmc : m ≤ c) (hc : c ≤ maxLen) (hl : m ≤ 140737488351232) (hZ : Z b) :
    SlR (tInt .u8) 1 Z w (.slice (some ⟨b, 0, none⟩) m c) k := by
  subst hm
  refine ⟨_, c, rfl, hmc, fun h => (by cases h), by omega, hc, fun i x hx => ⟨b, 0, [.int .u8 x], rfl, hZ, Cells.unit h ?_, rfl, hk x (List.mem_of_getElem? hx)⟩⟩
  have hl := (List.getElem?_eq_some_iff.1 hx).1
  have h1 : (C.toList.take k.length)[i]? = (k.map (Value.int .u8))[i]? := by rw [hC]
  rw [List.getElem?_take_of_lt hl, List.getElem?_map, hx] at h1
  show C[0 + i * 1]? = _
  rw [Nat.zero_add, Nat.mul_one]
  simpa using h1
end
end Go.Wk

/- THE GROUND OF THE WALKS, 27: a pool of one's own (what was made and is never written again); a store's rows as one part. -/
namespace Go.Wk
open Go
set_option linter.unusedVariables false
set_option linter.unusedSimpArgs false

/-- What lay there at the begin, and the pool. -/
def Dz (w0 : World) (F : Nat → Prop) : Nat → Prop := fun k => k < w0.heap.size ∨ F k
/-- The pool has grown. -/
structure Grow (w0 : World) (F : Nat → Prop) (Wp : World) (F' : Nat → Prop) (Wp' : World) : Prop where
  base : Ext none' w0 Wp'
  keeps : Keeps (Dz w0 F) Wp Wp'
  sub : ∀ k, F k → F' k
theorem Grow.refl {w0 Wp : World} {F : Nat → Prop} (h : Ext none' w0 Wp) : Grow w0 F Wp F Wp := ⟨h, ⟨Nat.le_refl _, fun _ _ _ => rfl⟩, fun _ h => h⟩
theorem Grow.trans {w0 W1 W2 W3 : World} {F1 F2 F3 : Nat → Prop} (h : Grow w0 F1 W1 F2 W2) (g : Grow w0 F2 W2 F3 W3) : Grow w0 F1 W1 F3 W3 :=
  ⟨g.base, h.keeps.trans ⟨g.keeps.1, fun k hz hk => g.keeps.2 k (hz.imp id (h.sub k)) hk⟩, fun k hk => g.sub k (h.sub k hk)⟩
section
variable {α : Type} {T : Ty α} {w w' w0 Wp Wp' : World} {L : List Atom} {F F' : Nat → Prop} {cs : List Value} {v : Value} {x : α} {xs : List α} {bytes : Nat}
theorem Grow.R (g : Grow w0 F Wp F' Wp') (h : T.R (Dz w0 F) Wp cs x) : T.R (Dz w0 F') Wp' cs x := T.mono (T.keeps h g.keeps) fun k _ hk => hk.imp id (g.sub k)
theorem Grow.els (g : Grow w0 F Wp F' Wp') (h : Els T (Dz w0 F) Wp cs xs) : Els T (Dz w0 F') Wp' cs xs := ⟨h.1, fun i x hx => g.R (h.2 i x hx)⟩
theorem Grow.slr (g : Grow w0 F Wp F' Wp') (h : SlR T bytes (Dz w0 F) Wp v xs) : SlR T bytes (Dz w0 F') Wp' v xs := (h.keeps g.keeps).mono fun k _ hk => hk.imp id (g.sub k)
/-- From the pool's world on. -/
theorem Holds.dz (H : Holds w L) (i j : Nat) (hi : L[i]? = some (exc F Wp)) (hj : L[j]? = some (shr (fun k => k < w0.heap.size) w0)) (hW : Ext none' w0 Wp) : Keeps (Dz w0 F) Wp w := by
  obtain ⟨a, _, _, _, e1⟩ := H.get hi
  obtain ⟨_, _, _, _, e2⟩ := H.get hj
  refine ⟨a, fun k hz hk => ?_⟩
  rcases hz with hz | hz
  · exact (e2 k hz).trans (hW.blk k hz (fun h => h)).symm
  · exact e1 k hz
/-- At the begin: the pool is empty. -/
theorem Holds.pool0 (H : Holds w L) : Holds w (exc none' w :: L) :=
  H.cons (exc_ok fun _ h => h.elim) fun b _ _ k hk => hk.elim
/-- An exclusive part goes into the pool. -/
theorem Holds.poolX {a : Atom} (H : Holds w (a :: L)) (hx : a.excl = true) (i j : Nat) (hi : L[i]? = some (exc F Wp)) (hj : L[j]? = some (shr (fun k => k < w0.heap.size) w0)) (hW : Ext none' w0 Wp) :
    Holds w (L.set i (exc (fun k => F k ∨ a.F k) w)) ∧ Grow w0 F Wp (fun k => F k ∨ a.F k) w := by
  have hT := H.tail
  have hlt : i < L.length := (List.getElem?_eq_some_iff.1 hi).1
  have hap := getElem_apart hT.apart hi
  have hha := (List.pairwise_cons.1 H.apart).1
  have hZ := (hT.ok _ (List.mem_of_getElem? hi)).2.1
  have hA := (H.ok a (by simp)).2.1
  have hb : ∀ k, (F k ∨ a.F k) → k < w.heap.size := fun k hk => hk.elim (hZ k) (hA k)
  refine ⟨⟨fun b hm => ?_, pairwise_set hT.apart hlt fun b hm e k hk hbk => ?_⟩, ?_, H.tail.dz i j hi hj hW, fun k h => .inl h⟩
  · rcases List.mem_or_eq_of_mem_set hm with hm | rfl
    · exact hT.ok b hm
    · exact exc_ok hb
  · rcases hk with hk | hk
    · exact hap b hm (.inl rfl) k hk hbk
    · exact hha b (List.mem_of_mem_eraseIdx hm) (.inl hx) k hk hbk
  · exact hT.ext_of j hj
/-- What a call has made goes into the pool. -/
theorem Holds.poolC (H : Holds w L) (hE : Ext none' w w') (i j : Nat) (hi : L[i]? = some (exc F Wp)) (hj : L[j]? = some (shr (fun k => k < w0.heap.size) w0)) (hW : Ext none' w0 Wp) :
    Holds w' (L.set i (exc (fun k => F k ∨ (w.heap.size ≤ k ∧ k < w'.heap.size)) w')) ∧ Grow w0 F Wp (fun k => F k ∨ (w.heap.size ≤ k ∧ k < w'.heap.size)) w' := by
  have H1 : Holds w' (exc (fun k => w.heap.size ≤ k ∧ k < w'.heap.size) w' :: L) := H.new hE (exc_ok fun _ h => h.2) fun _ h => h.1
  exact H1.poolX rfl i j hi hj hW
theorem Holds.setSame {a : Atom} (H : Holds w L) {i : Nat} (hi : L[i]? = some a) : Holds w (L.set i a) := by
  rw [show L.set i a = L from ?_]; · exact H
  apply List.ext_getElem?
  intro k
  by_cases hk : i = k
  · subst hk; rw [List.getElem?_set_self (List.getElem?_eq_some_iff.1 hi).1, hi]
  · rw [List.getElem?_set_ne hk]
end

/-- Rows of one store. -/
structure Rw where
  v : Value
  n : Nat
  cs : List Value
abbrev Rw.row (e size : Nat) (r : Rw) : Atom := Go.Wk.row e size r.v r.n r.cs
/-- A row to the front; and back. -/
theorem Holds.pick {w : World} {A B C D : List Atom} {a : Atom} (H : Holds w (A ++ (B ++ a :: C) ++ D)) : Holds w (a :: (A ++ (B ++ C) ++ D)) :=
  H.perm (by
    have : (A ++ (B ++ a :: C) ++ D) = ((A ++ B) ++ a :: (C ++ D)) := by simp
    rw [this]
    refine List.perm_middle.trans ?_
    simp)
theorem Holds.unpick {w : World} {A B C D : List Atom} {a : Atom} (H : Holds w (a :: (A ++ (B ++ C) ++ D))) : Holds w (A ++ (B ++ a :: C) ++ D) :=
  H.perm (by
    have : (A ++ (B ++ a :: C) ++ D) = ((A ++ B) ++ a :: (C ++ D)) := by simp
    rw [this]
    refine List.Perm.trans ?_ List.perm_middle.symm
    simp)
end Go.Wk

/- The data of versions, cells and steps, as they lie in memory. -/
namespace Go.Proofs.Ytpandioolpnihaa
open Go Go.Wk
set_option linter.unusedVariables false
set_option linter.unusedSimpArgs false

abbrev Key := List Int
structure Ver where
  ts : Int
  txn : Int
  dead : Bool
  val : Key
  keys : List Key
  deriving DecidableEq
structure Cl where
  key : Key
  vers : List Ver
  intent : Ver
  deriving DecidableEq
structure Stp where
  kind : Int
  key : Key
  v : Ver
  ts : Int
  deriving DecidableEq
abbrev tKey : Ty Key := tSlice (tInt .u8) 1
abbrev tKeys : Ty (List Key) := tSlice tKey 24
abbrev tVer : Ty Ver := tMap (tPair (tInt .u64) (tPair (tInt .u64) (tPair tBool (tPair tKey tKeys)))) fun v => (v.ts, v.txn, v.dead, v.val, v.keys)
abbrev tCl : Ty Cl := tMap (tPair tKey (tPair (tSlice tVer 72) tVer)) fun c => (c.key, c.vers, c.intent)

abbrev tStp : Ty Stp := tMap (tPair (tInt .i64) (tPair tKey (tPair tVer (tInt .u64)))) fun s => (s.kind, s.key, s.v, s.ts)
theorem stp_cells {Z : Nat → Prop} {w : World} {cs : List Value} {s : Stp} : tStp.R Z w cs s ↔ ∃ vk vs, cs = .int .i64 s.kind :: vk :: (vs ++ [.int .u64 s.ts]) ∧ InK .i64 s.kind ∧ SlR (tInt .u8) 1 Z w vk s.key ∧ tVer.R Z w vs s.v ∧ InK .u64 s.ts := by
  constructor
  · rintro ⟨_, _, rfl, ⟨rfl, h1⟩, _, _, rfl, ⟨vk, rfl, h2⟩, vs, _, rfl, h3, rfl, h4⟩
    exact ⟨vk, vs, rfl, h1, h2, h3, h4⟩
  · rintro ⟨vk, vs, rfl, h1, h2, h3, h4⟩
    exact ⟨[.int .i64 s.kind], _, rfl, ⟨rfl, h1⟩, [vk], _, rfl, ⟨vk, rfl, h2⟩, vs, [.int .u64 s.ts], rfl, h3, rfl, h4⟩
theorem ver_cells {Z : Nat → Prop} {w : World} {cs : List Value} {v : Ver} : tVer.R Z w cs v ↔ ∃ vv vk, cs = [.int .u64 v.ts, .int .u64 v.txn, .bool v.dead, vv, vk] ∧ InK .u64 v.ts ∧ InK .u64 v.txn ∧ SlR (tInt .u8) 1 Z w vv v.val ∧ SlR tKey 24 Z w vk v.keys := by
  constructor
  · rintro ⟨_, _, rfl, ⟨rfl, h1⟩, _, _, rfl, ⟨rfl, h2⟩, _, _, rfl, ⟨rfl, _⟩, _, _, rfl, ⟨vv, rfl, h3⟩, vk, rfl, h4⟩
    exact ⟨vv, vk, rfl, h1, h2, h3, h4⟩
  · rintro ⟨vv, vk, rfl, h1, h2, h3, h4⟩
    exact ⟨[.int .u64 v.ts], _, rfl, ⟨rfl, h1⟩, [.int .u64 v.txn], _, rfl, ⟨rfl, h2⟩, [.bool v.dead], _, rfl, ⟨rfl, trivial⟩, [vv], [vk], rfl, ⟨vv, rfl, h3⟩, vk, rfl, h4⟩
theorem cl_cells {Z : Nat → Prop} {w : World} {cs : List Value} {c : Cl} : tCl.R Z w cs c ↔ ∃ vk vs is, cs = vk :: vs :: is ∧ SlR (tInt .u8) 1 Z w vk c.key ∧ SlR tVer 72 Z w vs c.vers ∧ tVer.R Z w is c.intent := by
  constructor
  · rintro ⟨_, _, rfl, ⟨vk, rfl, h1⟩, _, is, rfl, ⟨vs, rfl, h2⟩, h3⟩
    exact ⟨vk, vs, is, rfl, h1, h2, h3⟩
  · rintro ⟨vk, vs, is, rfl, h1, h2, h3⟩
    exact ⟨[vk], _, rfl, ⟨vk, rfl, h1⟩, [vs], is, rfl, ⟨vs, rfl, h2⟩, h3⟩
theorem any_take {α : Type} {l : List α} {j : Nat} {x : α} (h : l[j]? = some x) (q : α → Bool) : (l.take (j + 1)).any q = ((l.take j).any q || q x) := by
  rw [List.take_add_one, h, Option.toList_some, List.any_append]; simp only [List.any_cons, List.any_nil, Bool.or_false]
theorem keys_in {Z : Nat → Prop} {w : World} {v : Value} {ys : List Key} (h : SlR tKey 24 Z w v ys) : ∀ k ∈ ys, ∀ x ∈ k, InK .u8 x := by
  intro k hk
  obtain ⟨j, hj⟩ := List.getElem?_of_mem hk
  obtain ⟨_, _, rfl, _, _⟩ := h.len
  obtain ⟨_, _, _, _, _, _, vy, _, hvy⟩ := h.at hj
  exact hvy.allIn
end Go.Proofs.Ytpandioolpnihaa

/- THE GROUND OF THE WALKS, 28: held against nil. -/
namespace Go.Wk
open Go
set_option linter.unusedVariables false
set_option linter.unusedSimpArgs false
section
variable {P : Program} {d t t' ty e : Nat} {p : String} {af : Array Edge} {g : Option (Nat × Bool)} {f : Fr} {x y : Operand} {w : World} {a : Option Addr}
theorem y_neqNil (ht : P.underlying t = some (.pointer e)) (hx : ev f x = .pointer a) (hy : ev f y = .pointer none) : Yd P ⟨some d, .binOp .neq t x y t', ty, p, af, g⟩ f w (.bool (!a.isNone)) :=
  ⟨rfl, by
    have hr := run_isNil (w := w) (a := a) ht (by cases a with | none => exact .inl rfl | some x => exact .inr ⟨x, rfl⟩)
    have hg : (eqGuard .neq t x y (.pointer a) (.pointer none)).run P w = .ok () w := by cases a <;> rfl
    have hb : (binOp .neq t (.pointer a) (.pointer none)) = (do pure (.bool !(← Op.equal t (.pointer a) (.pointer none)))) := by cases a <;> rfl
    simp only [execOp, hx, hy, Sem.run_bind, hg, Result.andThen, hb, hr, Sem.run_pure]⟩
theorem run_isNilMap {k v : Nat} {b : Option Nat} (ht : P.underlying t = some (.map k v)) : (Op.equal t (.map b) (.map none)).run P w = .ok b.isNone w := by
  unfold Op.equal
  rw [show Op.maxDepth = 9999 + 1 from rfl, Op.equalIn]
  simp only [Sem.run_bind, run_underlying ht, Result.andThen]
  cases b <;> rfl
theorem y_neqNilMap {k v : Nat} {b : Option Nat} (ht : P.underlying t = some (.map k v)) (hx : ev f x = .map b) (hy : ev f y = .map none) : Yd P ⟨some d, .binOp .neq t x y t', ty, p, af, g⟩ f w (.bool (!b.isNone)) :=
  ⟨rfl, by
    have hr := run_isNilMap (w := w) (b := b) ht
    have hg : (eqGuard .neq t x y (.map b) (.map none)).run P w = .ok () w := by cases b <;> rfl
    have hb : (binOp .neq t (.map b) (.map none)) = (do pure (.bool !(← Op.equal t (.map b) (.map none)))) := by cases b <;> rfl
    simp only [execOp, hx, hy, Sem.run_bind, hg, Result.andThen, hb, hr, Sem.run_pure]⟩
theorem run_isNilSlice {n c : Nat} (ht : P.underlying t = some (.slice e)) : (Op.equal t (.slice a n c) (.slice none 0 0)).run P w = .ok a.isNone w := by
  unfold Op.equal
  rw [show Op.maxDepth = 9999 + 1 from rfl, Op.equalIn]
  simp only [Sem.run_bind, run_underlying ht, Result.andThen]
  cases a <;> rfl
theorem y_eqlNilSlice {n c : Nat} (ht : P.underlying t = some (.slice e)) (hx : ev f x = .slice a n c) (hy : ev f y = .slice none 0 0) : Yd P ⟨some d, .binOp .eql t x y t', ty, p, af, g⟩ f w (.bool a.isNone) :=
  ⟨rfl, by
    have hr := run_isNilSlice (w := w) (a := a) (n := n) (c := c) ht
    have hg : (eqGuard .eql t x y (.slice a n c) (.slice none 0 0)).run P w = .ok () w := by cases a <;> rfl
    have hb : (binOp .eql t (.slice a n c) (.slice none 0 0)) = (do pure (.bool (← Op.equal t (.slice a n c) (.slice none 0 0)))) := by cases a <;> rfl
    simp only [execOp, hx, hy, Sem.run_bind, hg, Result.andThen, hb, hr, Sem.run_pure]⟩
end
end Go.Wk

/- THE GROUND OF THE WALKS, 29: copy into a row of one's own; a row made wider within its capacity; append of zero values; slices.overlaps' entry. -/
namespace Go.Wk
open Go
set_option linter.unusedVariables false
set_option linter.unusedSimpArgs false

section
variable {P : Program} {n : Nat} {K : PK} {f : Fr} {ds : List Deferred} {w : World} {L : List Atom} {d t t' ty : Nat} {p : String} {af : Array Edge} {g : Option (Nat × Bool)} {x y : Operand}
/-- Cells of a row are written. -/
theorem row_write (H : Holds w L) (i : Nat) {e sz m : Nat} {v : Value} {cs : List Value} (hi : L[i]? = some (row e sz v m cs)) {b o : Nat} (hv : v.ownBlock = some b) (us : List Value) (ho : o + us.length ≤ cs.length) (h1 : ∀ c ∈ us, c.oneCell' = true) :
    ∃ w', (storeCells ⟨b, o, none⟩ us).run P w = .ok () w' ∧ Holds w' (L.set i (row e sz v m (cs.take o ++ us ++ cs.drop (o + us.length)))) := by
  obtain ⟨hl, hor⟩ := H.get hi
  rcases hor with ⟨rfl, rfl⟩ | ⟨g', cap, cur, rfl, hb0, hh, hc, hm, hsz, ht⟩
  · simp [Value.ownBlock] at hv
  · have hbg : g' = b := by simpa [Value.ownBlock] using hv
    subst hbg
    have hlen : m * sz ≤ cap * sz := Nat.mul_le_mul_right _ hc
    have hcl : cs.length ≤ cur.size := by omega
    have hst := run_storeCells (P := P) (o := o) us 0 w cur hh (by omega) h1
    simp only [Nat.add_zero] at hst
    have hlaid := laid_toList cur o us (by omega)
    refine ⟨w.putObj g' (.cells (laid cur o us) e), hst, H.step i hi rfl (Ext.put w g' _) (fun k _ hk => by subst hk; simp [Value.ownBlock]) (row_ok ⟨?_, .inr ⟨g', cap, _, rfl, hb0, World.putObj_heap_same (own_lt hh), hc, hm, by rw [laid_size]; exact hsz, ?_⟩⟩) fun _ h => .inl h⟩
    · simp only [List.length_append, List.length_take, List.length_drop]; omega
    · rw [hlaid]
      have e1 : m * sz = cs.length := hl.symm
      rw [e1] at ht ⊢
      rw [← ht]
      simp only [List.take_append, List.length_append, List.length_take, Array.length_toList, List.take_take, List.length_drop]
      have h2 : min o cur.size = o := by omega
      have h3 : min cs.length cur.size = cs.length := by omega
      simp only [h2, h3]
      have h4 : min cs.length o = o := by omega
      have h5 : min o cs.length = o := by omega
      rw [h4, List.take_of_length_le (l := us) (by omega), h5, List.drop_take, show cs.length - (o + us.length) = cs.length - (o + us.length) from rfl]
/-- copy(dst, src): dst lies in a row of one's own; all of src finds room. -/
theorem op_copy (H : Holds w L) (i : Nat) {tys : Array TypeId} {e sz m bytes : Nat} {z : Value} {dd : TypeDesc} {v xv : Value} {cs news : List Value} {k dl dc : Nat} (hi : L[i]? = some (row e sz v m cs)) {b o : Nat} (hv : v.ownBlock = some b) (ht : tys = #[t, t]) (hu : P.underlying t = some (.slice e)) (ti : TI P e sz bytes z dd)
    (hx : ev f x = .slice (some ⟨b, o, none⟩) dl dc) (hy : ev f y = xv) (hsrc : Src w xv k news) (hl : news.length = k * sz) (hk : k ≤ dl) (ho : o + news.length ≤ cs.length) (h1 : ∀ c ∈ news, c.oneCell' = true) (hn : d < n)
    (kk : ∀ w', Holds w' (L.set i (row e sz v m (cs.take o ++ news ++ cs.drop (o + news.length)))) → K (upd f d (.int .i64 k)) ds w') : Op1 P n ⟨some d, .call { callee := .builtin .copy, args := #[x, y], argTypes := tys }, ty, p, af, g⟩ f ds w K := by
  subst ht
  obtain ⟨a, c, rfl, hnone, hcell⟩ := hsrc
  obtain ⟨w', hst, H'⟩ := row_write (P := P) H i hi hv news ho h1
  have hf : (Builtin.firstCells sz k (.slice a k c)).run P w = .ok news.toArray w := by
    cases a with
    | none =>
      obtain ⟨rfl, _⟩ := hnone rfl
      obtain rfl : news = [] := List.eq_nil_of_length_eq_zero (by simpa using hl)
      exact run_firstCells_none _ sz 0 0 c
    | some A => exact run_firstCells_some _ sz k A k c news hl fun j u hj => hcell A rfl j u hj
  have hmin : Nat.min k dl = k := Nat.min_eq_left hk
  have hrun : (Builtin.copy_ #[t, t] ty #[.slice (some ⟨b, o, none⟩) dl dc, .slice a k c]).run P w = .ok (.int .i64 k) w' := by
    show Sem.run P (do
      let .slice elem ← underlying t | stuck "copy: slice type expected"
      let n := Nat.min k dl
      let cells ← Builtin.firstCells (← sizeOf elem) n (.slice a k c)
      storeCells ⟨b, o, none⟩ cells.toList
      pure (goInt n)) w = _
    simp only [Sem.run_bind, run_underlying hu, Result.andThen, ti.run_size, hmin, hf, hst, Sem.run_pure]
    rfl
  refine Op1_val rfl rfl hn (w' := w') ?_ (kk w' H')
  simp [execOp, resolve, invoke, builtin, hx, hy, hrun, Result.andThen]
/-- A row within its capacity: as many elements more as one likes, whatever they hold. -/
theorem Holds.rowWiden (H : Holds w L) (i : Nat) {e sz m c k : Nat} {a : Option Addr} {cs : List Value} (hi : L[i]? = some (row e sz (.slice a m c) m cs)) (ha : a ≠ none) (hk : m + k ≤ c) :
    ∃ xs : List Value, xs.length = k * sz ∧ Holds w (L.set i (row e sz (.slice a (m + k) c) (m + k) (cs ++ xs))) := by
  obtain ⟨hl, hor⟩ := H.get hi
  rcases hor with ⟨hv, _⟩ | ⟨g', cap, cur, hv, hb0, hh, hc, hm, hsz, ht⟩
  · injection hv with hv _ _; exact absurd hv ha
  · injection hv with h1 h2 h3; subst h1 h3
    have e1 : cur.toList.take ((m + k) * sz) = cs ++ (cur.toList.drop (m * sz)).take (k * sz) := by rw [Nat.add_mul, List.take_add, ht]
    have hle : (m + k) * sz ≤ c * sz := Nat.mul_le_mul_right _ hk
    rw [Nat.add_mul] at hle
    have hxl : ((cur.toList.drop (m * sz)).take (k * sz)).length = k * sz := by rw [List.length_take, List.length_drop, Array.length_toList]; omega
    refine ⟨_, hxl, H.step i hi rfl (M := none') ⟨rfl, rfl, rfl, Nat.le_refl _, fun _ _ _ => rfl⟩ (fun _ _ h => h.elim) (row_ok ⟨?_, .inr ⟨g', c, cur, rfl, hb0, hh, hk, hm, hsz, e1⟩⟩) fun k hk => .inl hk⟩
    rw [List.length_append, hxl, hl, Nat.add_mul]
/-- append(s, make([]T, k)...) where there is no room: a new row. -/
theorem op_appendZeros (H : Holds w L) {tys : Array TypeId} {e size bytes size0 bytes0 : Nat} {z z0 : Value} {dd' : TypeDesc} {a : Option Addr} {c m k : Nat} {cs : List Value} (ht : tys = #[t, t']) (ti0 : TI P t size0 bytes0 z0 (.slice e)) (ti : TI P e size bytes z dd') (hz : z.cells.size = size) (hpos : Nat.ble 1 size = true)
    (htn : P.underlying t' = some (.int .i64)) (hx : ev f x = .slice a m c) (hy : ev f y = .int .i64 (k : Int)) (hold : Src w (.slice a m c) m cs) (hcl : cs.length = m * size) (hk : 0 < k) (hmc : m ≤ c) (hroom : c < m + k) (hb : (m + k) * bytes ≤ 140737488355328) (h63 : m + k ≤ maxLen) (hn : d < n)
    (kk : ∀ v' zs w', zs.length = k * size → Holds w' (row e size v' (m + k) (cs ++ zs) :: L) → K (upd f d v') ds w') : Op1 P n ⟨some d, .call { callee := .builtin .append, args := #[x, y], argTypes := tys }, ty, p, af, g⟩ f ds w K := by
  subst ht
  obtain ⟨i, hi, hs, hz', hby⟩ := ti.i
  have hpos' := Nat.le_of_ble_eq_true hpos
  obtain ⟨a1, c1, e1, hon, hoc⟩ := hold
  injection e1 with e1 _ e2; subst e1 e2
  have hE : Ext none' w w.drew := ⟨rfl, rfl, rfl, Nat.le_refl _, fun _ _ _ => rfl⟩
  have hf : (Builtin.firstCells i.size m (.slice a m c)).run P w.drew = .ok cs.toArray w.drew := by
    rw [hs]
    cases a with
    | none =>
      obtain ⟨rfl, _⟩ := hon rfl
      obtain rfl : cs = [] := List.eq_nil_of_length_eq_zero (by simpa using hcl)
      exact run_firstCells_none _ size 0 0 c
    | some A => exact run_firstCells_some _ size m A m c cs hcl fun j u hj => hoc A rfl j u hj
  have hkb : k * bytes ≤ 281474976710656 := by have := Nat.mul_le_mul_right bytes (show k ≤ m + k by omega); omega
  have hrun := Lib.run_append_grow_zeros (P := P) w t t' ty e i z .i64 .i64 ti0.u htn hi hz' a m c cs hf k hk (by omega) hroom (by simp only [maxLen] at h63; omega) (by rw [hby]; exact hkb) (by rw [hby]; exact growslice_fits hroom hb)
  have hzl : ∀ q, (Builtin.zeroCells z.cells q).toList.length = q * size := fun q => by simp [Builtin.zeroCells, hz]
  refine Op1_val rfl rfl hn (v := .slice (some ⟨w.heap.size, 0, none⟩) (m + k) (grownCap w (m + k) c e)) (w' := w.drew.alloc (.cells (cs.toArray ++ Builtin.zeroCells z.cells k ++ Builtin.zeroCells z.cells (grownCap w (m + k) c e - (m + k))) e)) ?_ (kk _ (Builtin.zeroCells z.cells k).toList _ (hzl k) ((H.ext0 hE).new (Ext.alloc _ _ _) (row_ok ?_) ?_))
  · simp [execOp, resolve, invoke, builtin, hx, hy, Result.andThen]
    rw [hrun, Array.append_assoc]
  · have hge : m + k ≤ grownCap w (m + k) c e := grownCap_ge _ _ _ _
    refine ⟨by rw [List.length_append, hcl, hzl, Nat.add_mul], .inr ⟨w.heap.size, _, _, rfl, Nat.zero_le _, World.alloc_heap_new _ _, hge, grownCap_le_maxLen _ _ _ _ h63, ?_, ?_⟩⟩
    · rw [← Array.length_toList]
      simp only [Array.toList_append, List.length_append, hzl, hcl]
      rw [← Nat.add_mul, ← Nat.add_mul]; congr 1; omega
    · simp only [Array.toList_append]
      rw [List.take_append_of_le_length (by simp only [List.length_append, hzl, hcl, Nat.add_mul]; omega)]
      refine List.take_of_length_le ?_
      simp only [List.length_append, hzl, hcl, Nat.add_mul]; omega
  · intro q hq
    have : w.heap.size = q := by simpa [Value.ownBlock] using hq
    exact Nat.le_of_eq this
theorem frozen0 {w : World} {a o : Nat} {C : Array Value} {e : TypeId} (h : w.heap[a]? = some (.cells C e (0, 0))) : w.frozen? ⟨a, o, none⟩ = false := by
  unfold World.frozen?; simp [h]
theorem shape0 {w : World} {a : Nat} {C : Array Value} {e : TypeId} {fr : Nat × Nat} (h : w.heap[a]? = some (.cells C e fr)) : w.shape? a = some (e, C.size) := by
  unfold World.shape?; rw [h]
/-- slices.overlaps' entry: two blocks. -/
theorem op_overlaps (k : FuncId) {fn : Func} {tys : Array TypeId} {tS tR e sz bytes : Nat} {z : Value} {dd : TypeDesc} (hf : P.funcs[k]? = some fn) (hname : (fn.name == "runtime.NumGoroutine") = false) (hb : fn.body.isNone = true) (hn : Extern.findNext fn = none) (he : Extern.find fn = some (Extern.SlicesOverlaps.overlaps #[tS, tS] #[tR])) (hu : P.underlying tS = some (.slice e)) (ti : TI P e sz bytes z dd)
    {a b oa ob la ca lb cb : Nat} {Ca Cb : Array Value} {ea eb : TypeId} (ha : w.heap[a]? = some (.cells Ca ea (0, 0))) (hbb : w.heap[b]? = some (.cells Cb eb (0, 0))) (hab : a ≠ b) (hpos : Cb.size ≠ 0) (hx : ev f x = .slice (some ⟨a, oa, none⟩) la ca) (hy : ev f y = .slice (some ⟨b, ob, none⟩) lb cb) (hd : d < n)
    (kk : K (upd f d (.bool false)) ds w) : Op1 P n ⟨some d, .call { callee := .value (.func k), args := #[x, y], argTypes := tys }, ty, p, af, g⟩ f ds w K := by
  refine Op1_val rfl rfl hd (w' := w) ?_ kk
  have hr := Lib.run_overlaps_apart (P := P) w tS tR e hu sz (fun w => ti.run_size) ⟨a, oa, none⟩ ⟨b, ob, none⟩ la ca lb cb hab ea eb Ca.size Cb.size (shape0 ha) (shape0 hbb) hpos (frozen0 ha) (frozen0 ha)
  have hc := run_callFunc_extern (P := P) (f := k) hf hname hb hn he #[.slice (some ⟨a, oa, none⟩) la ca, .slice (some ⟨b, ob, none⟩) lb cb] w
  rw [hr] at hc
  have hfn : ev f (.func k) = .func (.func k) #[] #[] := rfl
  simp [execOp, resolve, Deferred.ofValue, invoke, hx, hy, hfn, hc, Result.andThen]
end
end Go.Wk
namespace Go.Wk
open Go
section
variable {P : Program} {n : Nat} {K : PK} {f : Fr} {ds : List Deferred} {w : World} {L : List Atom} {d t t' ty : Nat} {p : String} {af : Array Edge} {g : Option (Nat × Bool)} {x y : Operand}
/-- copy(dst, src) where dst is the shorter one. -/
theorem op_copyD (H : Holds w L) (i : Nat) {tys : Array TypeId} {e sz m bytes : Nat} {z : Value} {dd : TypeDesc} {v xv : Value} {cs news : List Value} {k dl dc : Nat} (hi : L[i]? = some (row e sz v m cs)) {b o : Nat} (hv : v.ownBlock = some b) (ht : tys = #[t, t]) (hu : P.underlying t = some (.slice e)) (ti : TI P e sz bytes z dd)
    (hx : ev f x = .slice (some ⟨b, o, none⟩) dl dc) (hy : ev f y = xv) (hsrc : Src w xv k news) (hl : news.length = k * sz) (hk : dl ≤ k) (hk0 : 0 < k) (ho : o + dl * sz ≤ cs.length) (h1 : ∀ c ∈ news.take (dl * sz), c.oneCell' = true) (hn : d < n)
    (kk : ∀ w', Holds w' (L.set i (row e sz v m (cs.take o ++ news.take (dl * sz) ++ cs.drop (o + dl * sz)))) → K (upd f d (.int .i64 dl)) ds w') : Op1 P n ⟨some d, .call { callee := .builtin .copy, args := #[x, y], argTypes := tys }, ty, p, af, g⟩ f ds w K := by
  subst ht
  obtain ⟨a, c, rfl, hnone, hcell⟩ := hsrc
  have hle : dl * sz ≤ k * sz := Nat.mul_le_mul_right _ hk
  have htl : (news.take (dl * sz)).length = dl * sz := by rw [List.length_take]; omega
  obtain ⟨w', hst, H'⟩ := row_write (P := P) H i hi hv (news.take (dl * sz)) (by rw [htl]; exact ho) h1
  rw [htl] at H'
  have hf : (Builtin.firstCells sz dl (.slice a k c)).run P w = .ok (news.take (dl * sz)).toArray w := by
    cases a with
    | none => have := (hnone rfl).1; omega
    | some A =>
      refine run_firstCells_some _ sz dl A k c (news.take (dl * sz)) htl fun j u hj => ?_
      rw [List.getElem?_take] at hj
      split at hj
      · exact hcell A rfl j u hj
      · cases hj
  have hmin : Nat.min k dl = dl := Nat.min_eq_right hk
  have hrun : (Builtin.copy_ #[t, t] ty #[.slice (some ⟨b, o, none⟩) dl dc, .slice a k c]).run P w = .ok (.int .i64 dl) w' := by
    show Sem.run P (do
      let .slice elem ← underlying t | stuck "copy: slice type expected"
      let n := Nat.min k dl
      let cells ← Builtin.firstCells (← sizeOf elem) n (.slice a k c)
      storeCells ⟨b, o, none⟩ cells.toList
      pure (goInt n)) w = _
    simp only [Sem.run_bind, run_underlying hu, Result.andThen, ti.run_size, hmin, hf, hst, Sem.run_pure]
    rfl
  refine Op1_val rfl rfl hn (w' := w') ?_ (kk w' H')
  simp [execOp, resolve, invoke, builtin, hx, hy, hrun, Result.andThen]
theorem y_cap {tys : Array TypeId} {t0 size bytes e : Nat} {zero : Value} {a : Option Addr} {m c : Nat} (ht : tys[0]? = some t0) (ti : TI P t0 size bytes zero (.slice e)) (hx : ev f x = .slice a m c) :
    Yd P ⟨some d, .call { callee := .builtin .cap, args := #[x], argTypes := tys }, ty, p, af, g⟩ f w (.int .i64 (c : Int)) :=
  ⟨rfl, by simp [execOp, resolve, invoke, builtin, hx, Builtin.cap_, ht, ti.run_underlying, goInt, Result.andThen]⟩
theorem Src.grow {w : World} {a : Option Addr} {m c c' : Nat} {cs : List Value} (h : Src w (.slice a m c) m cs) (ha : a ≠ none) : Src w (.slice a m c') m cs := by
  obtain ⟨a1, c1, e, h1, h2⟩ := h
  injection e with e1 _ _; subst e1
  exact ⟨_, _, rfl, fun h => absurd h ha, h2⟩
end
end Go.Wk

/- THE GROUND OF THE WALKS, 30: drawn regions: operations that are passed over. -/
namespace Go.Wk
open Go
set_option linter.unusedVariables false
section
variable {P : Program} {l : Option Nat} {n : Nat} {Q : PQ} {f : Fr} {ds : List Deferred} {w : World} {ops : List Oper} {bs : List Nat} {S0 : World → Prop} {fuel : Nat} {listed : List Bool}
theorem DA_x (i : Nat) {o : Oper} (hi : ops[i]? = some o) (hok : okT ops listed i = true) (hb : bs.contains i = false) (hw : ∀ a, Fits n f a → Region.wanted o (yielded ops.toArray a.tmps) = false)
    (hS : Sx bs S0 listed.toArray w) (hd : ∀ d, o.dst = some d → d < n)
    (k : Sx bs S0 (listed.set i true).toArray w → DA P n ops bs S0 Q fuel (listed.set i true) (updO f o.dst undef) ds w) : DA P n ops bs S0 Q (fuel + 1) listed f ds w := fun hc a ha he => by
  simp only [okT, Bool.and_eq_true] at hok
  obtain ⟨⟨h1, h2⟩, h3⟩ := hok
  have hi' : ops.toArray[i]? = some o := by simpa using hi
  have hr : i ∈ Region.ready .any ops.toArray listed.toArray := by simpa using h3
  have hnb : i ∉ bs := fun h => by rw [List.contains_eq_mem, decide_eq_false_iff_not] at hb; exact hb h
  have hset : (listed.set i true).toArray = listed.toArray.setIfInBounds i true := by simp
  have hS2 : Sx bs S0 (listed.set i true).toArray w := by rw [hset]; exact (Sx_set hnb _ _).2 hS
  refine wpAnyS_first hi' (Region.noSelect_spec h1) (fun c a w h => h.elim) (Sx_set hnb) fuel _ a w hc (Region.free_spec hi' h2) hr ?_ hS ?_ (v := undef)
  · exact .inr ⟨hw a ha, rfl⟩
  · have := k hS2 (by rw [hset]; exact hc.set hr) _ (ha.putO hd undef) (by cases o.dst <;> exact he)
    rw [hset] at this; exact this
/-- The guard says otherwise. -/
theorem DA_s (i : Nat) {dst : Option Nat} {op : Op} {ty : Nat} {p : String} {af : Array Edge} {j dj : Nat} {b b' : Bool} (hi : ops[i]? = some ⟨dst, op, ty, p, af, some (j, b)⟩) (hj : (ops.toArray[j]?).bind (·.dst) = some dj) (hdj : dj < n) (hbv : f dj = .bool b') (hne : (b' == b) = false) (hok : okT ops listed i = true) (hb : bs.contains i = false)
    (hS : Sx bs S0 listed.toArray w) (hd : ∀ d, dst = some d → d < n) (k : Sx bs S0 (listed.set i true).toArray w → DA P n ops bs S0 Q fuel (listed.set i true) (updO f dst undef) ds w) : DA P n ops bs S0 Q (fuel + 1) listed f ds w :=
  DA_x i hi hok hb (fun a ha => by simp only [Region.wanted, yielded_at ha hj hdj hbv]; cases b <;> cases b' <;> simp_all) hS hd k
/-- The guard itself was passed over. -/
theorem DA_u (i : Nat) {dst : Option Nat} {op : Op} {ty : Nat} {p : String} {af : Array Edge} {j dj : Nat} {b : Bool} (hi : ops[i]? = some ⟨dst, op, ty, p, af, some (j, b)⟩) (hj : (ops.toArray[j]?).bind (·.dst) = some dj) (hdj : dj < n) (hbv : f dj = undef) (hok : okT ops listed i = true) (hb : bs.contains i = false)
    (hS : Sx bs S0 listed.toArray w) (hd : ∀ d, dst = some d → d < n) (k : Sx bs S0 (listed.set i true).toArray w → DA P n ops bs S0 Q fuel (listed.set i true) (updO f dst undef) ds w) : DA P n ops bs S0 Q (fuel + 1) listed f ds w :=
  DA_x i hi hok hb (fun a ha => by simp only [Region.wanted, yielded_undef ha hj hdj hbv]; simp) hS hd k
end
end Go.Wk

/- THE GROUND OF THE WALKS, 31: a range over a function that hands over memory of its own with each element (the 22nd text with that added); the iterator may read at its begin what the loop stands on. -/
namespace Go.Wk
open Go
set_option linter.unusedVariables false
set_option linter.unusedSimpArgs false

/-- Two exclusive parts as one. -/
theorem Holds.mergeX {w : World} {L : List Atom} {a b : Atom} (H : Holds w (a :: L)) (hx : a.excl = true) (i : Nat) (hi : L[i]? = some b) (hb : b.excl = true) : Holds w (L.set i (exc (fun k => b.F k ∨ a.F k) w)) := by
  have hT := H.tail
  have hlt : i < L.length := (List.getElem?_eq_some_iff.1 hi).1
  have hap := getElem_apart hT.apart hi
  have hha := (List.pairwise_cons.1 H.apart).1
  have hZ := (hT.ok _ (List.mem_of_getElem? hi)).2.1
  have hA := (H.ok a (by simp)).2.1
  refine ⟨fun b hm => ?_, pairwise_set hT.apart hlt fun b hm e k hk hbk => ?_⟩
  · rcases List.mem_or_eq_of_mem_set hm with hm | rfl
    · exact hT.ok b hm
    · exact exc_ok fun k hk => hk.elim (hZ k) (hA k)
  · rcases hk with hk | hk
    · exact hap b hm (.inl hb) k hk hbk
    · exact hha b (List.mem_of_mem_eraseIdx hm) (.inl hx) k hk hbk

/-- What the loop that ranges owes; hx x: what comes with x, and is the loop's from then on. -/
structure RangerH {α : Type} (P : Program) (enc : α → Value) (hx : α → Atom) (Qp : List α → Prop) (n0 : Nat) (l : Nat) (J Jx : List α → (Nat → Prop) → World → Prop) : Prop where
  stable : ∀ pre B w w', J pre B w → w.heap.size ≤ w'.heap.size → w'.os = w.os → w'.tape = w.tape → w'.output = w.output → (∀ k, k < w.heap.size → (B k ∨ k < n0) → w'.heap[k]? = w.heap[k]?) → J pre B w'
  stablex : ∀ pre B w w', Jx pre B w → w.heap.size ≤ w'.heap.size → w'.os = w.os → w'.tape = w.tape → w'.output = w.output → (∀ k, k < w.heap.size → (B k ∨ k < n0) → w'.heap[k]? = w.heap[k]?) → Jx pre B w'
  bnd : ∀ pre B w, J pre B w → n0 ≤ w.heap.size ∧ ∀ k, B k → k < w.heap.size
  bndx : ∀ pre B w, Jx pre B w → n0 ≤ w.heap.size ∧ ∀ k, B k → k < w.heap.size
  round : ∀ pre x B W, J pre B W → Qp (pre ++ [x]) → (hx x).ok W → (hx x).excl = true → (∀ k, (hx x).F k → ¬ B k ∧ n0 ≤ k) → YieldAt P l (enc x) W fun e W' => ∃ B', Ext (fun k => B k ∨ (hx x).F k) W W' ∧ (∀ k, B' k → B k ∨ (hx x).F k ∨ W.heap.size ≤ k) ∧
    ((e = .returned (.bool true) ∧ J (pre ++ [x]) B' W') ∨ (e = .returned (.bool false) ∧ Jx (pre ++ [x]) B' W'))

/-- What an iterator owes. -/
def IterH {α : Type} (P : Program) (k : FuncId) (cap : List Value) (enc : α → Value) (hx : α → Atom) (Qp Ee : List α → Prop) (w : World) : Prop :=
  ∀ l B J Jx, RangerH P enc hx Qp w.heap.size l J Jx → J [] B w →
    Calls P k (.func (.yield l) #[] #[] :: cap).toArray w fun e w' => (∃ v, e = .returned v) ∧ ∃ B', Ext B w w' ∧ (∀ k, B' k → B k ∨ w.heap.size ≤ k) ∧ ((∃ xs, Ee xs ∧ J xs B' w') ∨ ∃ pre, Qp pre ∧ Jx pre B' w')

section
variable {α : Type} {P : Program} {enc : α → Value} {hx : α → Atom} {Qp Ee : List α → Prop} {l : Nat} {J Jx : List α → (Nat → Prop) → World → Prop} {w W0 W : World} {B0 B : Nat → Prop} {L : List Atom} {pre : List α}
theorem RangerH.start (hR : RangerH P enc hx Qp w.heap.size l J Jx) (hJ : J [] B w) : Holds w [aB B B w, aZ B w] ∧ ItInv w w B B := by
  have hb := (hR.bnd _ _ _ hJ).2
  refine ⟨(((Holds.nil w).cons (a := aZ B w) ⟨⟨Nat.le_refl _, rfl, rfl, rfl, fun _ _ => rfl⟩, fun k h => h.1, shr_stable fun k h => h.1⟩ (by simp)).cons (exc_ok fun k h => hb k (h.elim id id)) ?_), fun k h => .inl h, fun _ _ _ => rfl, Nat.le_refl _, fun k h => hb k (h.elim id id)⟩
  intro b hm _ k hk hF
  simp only [List.mem_singleton] at hm; subst hm
  exact hF.2 (hk.elim id id)
/-- Before the first yield: all that lay there lies there still. -/
theorem ItInv.first (hi : ItInv w w B B) (H : Holds W L) {i j : Nat} (h1 : L[i]? = some (aB B B w)) (h2 : L[j]? = some (aZ B w)) : Ext none' w W := by
  obtain ⟨a, b, c, d, _⟩ := H.get h1
  exact ⟨b, c, d, a, fun k hk _ => hi.agree H h1 h2 k hk (.inr hk)⟩
theorem RangerH.at (hR : RangerH P enc hx Qp w.heap.size l J Jx) (hJ : J pre B W0) (hi : ItInv w W0 B0 B) (H : Holds W L) {i j : Nat} (h1 : L[i]? = some (aB B B0 W0)) (h2 : L[j]? = some (aZ B0 w)) : J pre B W := by
  obtain ⟨a, b, c, d, _⟩ := H.get h1
  exact hR.stable pre B W0 W hJ a b c d (hi.agree H h1 h2)
theorem RangerH.atx (hR : RangerH P enc hx Qp w.heap.size l J Jx) (hJ : Jx pre B W0) (hi : ItInv w W0 B0 B) (H : Holds W L) {i j : Nat} (h1 : L[i]? = some (aB B B0 W0)) (h2 : L[j]? = some (aZ B0 w)) : Jx pre B W := by
  obtain ⟨a, b, c, d, _⟩ := H.get h1
  exact hR.stablex pre B W0 W hJ a b c d (hi.agree H h1 h2)
/-- A call of yield. -/
theorem RangerH.yield (hR : RangerH P enc hx Qp w.heap.size l J Jx) (hJ : J pre B W0) (hi : ItInv w W0 B0 B) {x : α} (H : Holds W (hx x :: L)) (i j : Nat) (h1 : L[i]? = some (aB B B0 W0)) (h2 : L[j]? = some (aZ B0 w)) (hex : (hx x).excl = true) (hnew : ∀ k, (hx x).F k → w.heap.size ≤ k) (hq : Qp (pre ++ [x])) :
    YieldAt P l (enc x) W fun e W' => (e = .returned (.bool true) ∧ ∃ B', J (pre ++ [x]) B' W' ∧ ItInv w W' B0 B' ∧ Holds W' (L.set i (aB B' B0 W'))) ∨ (e = .returned (.bool false) ∧ ∃ B', Jx (pre ++ [x]) B' W' ∧ ItInv w W' B0 B' ∧ Holds W' (L.set i (aB B' B0 W'))) := by
  have hap := (List.pairwise_cons.1 H.apart).1 _ (List.mem_of_getElem? h1)
  obtain ⟨fn, tmps, assign, body, hy, hr⟩ := hR.round pre x B W (hR.at hJ hi H.tail h1 h2) hq (H.ok _ (by simp)) hex fun k hk => ⟨fun hB => hap (.inl hex) k hk (.inl hB), hnew k hk⟩
  refine ⟨fn, tmps, assign, body, hy, hr.mono ?_⟩
  rintro e W' ⟨B', hE, hB', hor⟩
  have hlti : i < L.length := (List.getElem?_eq_some_iff.1 h1).1
  have H2 := H.mergeX hex i h1 rfl
  have h1' : (L.set i (exc (fun k => (B k ∨ B0 k) ∨ (hx x).F k) W))[i]? = some (exc (fun k => (B k ∨ B0 k) ∨ (hx x).F k) W) := List.getElem?_set_self hlti
  have hlt : ∀ k, B k ∨ B0 k → k < W.heap.size := fun k hk => (H.tail.ok _ (List.mem_of_getElem? h1)).2.1 k hk
  have key : (∀ k, B' k → k < W'.heap.size) → ItInv w W' B0 B' ∧ Holds W' (L.set i (aB B' B0 W')) := fun hb' => by
    have hb2 : ∀ k, B' k ∨ B0 k → k < W'.heap.size := fun k hk => hk.elim (hb' k) fun h => Nat.lt_of_lt_of_le (hlt k (.inr h)) hE.size
    have H' := H2.step i h1' rfl (a' := aB B' B0 W') hE (fun k _ hB => hB.elim (fun h => .inl (.inl h)) .inr) (exc_ok hb2) (fun k hk => by
      rcases hk with hk | hk
      · rcases hB' k hk with h | h | h
        · exact .inl (.inl (.inl h))
        · exact .inl (.inr h)
        · exact .inr h
      · exact .inl (.inl (.inr hk)))
    rw [List.set_set] at H'
    refine ⟨⟨fun k hk => ?_, fun k hk hn => ?_, ?_, hb2⟩, H'⟩
    · rcases hB' k hk with h | h | h
      · exact hi.sub k h
      · exact .inr (hnew k h)
      · obtain ⟨a, _⟩ := H.tail.get h2
        exact .inr (by omega)
    · by_cases hB : B k ∨ (hx x).F k
      · rcases hB with hB | hB
        · rcases hi.sub k hB with h | h
          · exact (hn h).elim
          · omega
        · have := hnew k hB; omega
      · obtain ⟨a, _, _, _, e⟩ := H.tail.get h2
        exact (hE.blk k (by omega) hB).trans (e k ⟨hk, hn⟩)
    · obtain ⟨a, _⟩ := H.tail.get h2
      have := hE.size; omega
  rcases hor with ⟨he, hJ'⟩ | ⟨he, hJ'⟩
  · obtain ⟨k1, k2⟩ := key (hR.bnd _ _ _ hJ').2
    exact .inl ⟨he, B', hJ', k1, k2⟩
  · obtain ⟨k1, k2⟩ := key (hR.bndx _ _ _ hJ').2
    exact .inr ⟨he, B', hJ', k1, k2⟩
/-- The iterator's end: all have come; or the loop was left. -/
theorem RangerH.done (hR : RangerH P enc hx Qp w.heap.size l J Jx) {xs : List α} (hxs : Ee xs) (hJ : J xs B W0) (hi : ItInv w W0 B0 B) (H : Holds W L) (i j : Nat) (h1 : L[i]? = some (aB B B0 W0)) (h2 : L[j]? = some (aZ B0 w)) :
    ∃ B', Ext B0 w W ∧ (∀ k, B' k → B0 k ∨ w.heap.size ≤ k) ∧ ((∃ xs, Ee xs ∧ J xs B' W) ∨ ∃ pre, Qp pre ∧ Jx pre B' W) := ⟨B, ItInv.ext H h2, hi.sub, .inl ⟨xs, hxs, hR.at hJ hi H h1 h2⟩⟩
theorem RangerH.left (hR : RangerH P enc hx Qp w.heap.size l J Jx) (hJ : Jx pre B W0) (hp : Qp pre) (hi : ItInv w W0 B0 B) (H : Holds W L) (i j : Nat) (h1 : L[i]? = some (aB B B0 W0)) (h2 : L[j]? = some (aZ B0 w)) :
    ∃ B', Ext B0 w W ∧ (∀ k, B' k → B0 k ∨ w.heap.size ≤ k) ∧ ((∃ xs, Ee xs ∧ J xs B' W) ∨ ∃ pre, Qp pre ∧ Jx pre B' W) := ⟨B, ItInv.ext H h2, hi.sub, .inr ⟨pre, hp, hR.atx hJ hi H h1 h2⟩⟩
end

section
variable {P : Program} {n : Nat} {Q : PQ} {f : Fr} {ds : List Deferred} {w : World} {L : List Atom}

/-- **THE RULE** for 'for x := range g { .. }' that stands in no other such loop. -/
theorem W_rangeFuncH {α : Type} {g : Operand} {tp : Nat} {assign body : Code} {k : FuncId} {cap : Array Value} (enc : α → Value) (hx : α → Atom) (Qp Ee : List α → Prop) (I : List α → List Atom → Prop) (Ix : Leave → List α → List Atom → Prop)
    (hg : ev f g = .func (.func k) #[] cap) (en : En P k) (htp : tp < n) (H : Holds w L) (hI0 : I [] L)
    (hsh : ∀ pre Ls, I pre Ls → ∀ a ∈ Ls, a.excl = false → ∀ k, a.F k → k < w.heap.size) (hshx : ∀ e pre Ls, Ix e pre Ls → ∀ a ∈ Ls, a.excl = false → ∀ k, a.F k → k < w.heap.size)
    (it : ∀ w', Ext none' w w' → IterH P k cap.toList enc hx Qp Ee w')
    (hbody : ∀ l aL aL' aD aO pre x Ls Wd, I pre Ls → Qp (pre ++ [x]) → Holds Wd (aL :: aD :: aO :: hx x :: Ls) →
      W P (some l) n assign (thenQ (fun f1 ds1 W1 => ∃ Ls1, Holds W1 (aL :: aD :: aO :: Ls1) ∧ ∀ W2, Holds W2 (aL' :: aD :: aO :: Ls1) → W P (some l) n body (bodyQ aL' aD aO I Ix (pre ++ [x])) f1 ds1 W2) (fun _ _ _ _ => False)) (upd f tp (enc x)) [] Wd)
    (hdone : ∀ D xs Ls W, Ee xs → I xs Ls → Holds W (own D (.deferred (some [])) :: Ls) → Q .normal f ({ target := .collected D, args := #[] } :: ds) W)
    (hexit : ∀ D pre Ls W e, Qp pre → Ix e pre Ls → Holds W (own D (.deferred (some [])) :: Ls) → Q e.out f ({ target := .collected D, args := #[] } :: ds) W) :
    W P none n (.rangeFunc g #[tp] assign body) Q f ds w := fun a ha hd => by
  refine wpIn_rangeFunc fun fn _ => ?_
  let D := w.heap.size
  let l := w.heap.size + 1
  let rec0 (st : LoopState) (j : Option Code) : Loop := { state := st, pending := j, fn, tmps := a.tmps, params := #[tp], assign, body, defers := D }
  let w1 := (w.alloc (.deferred (some []))).alloc (.loop (rec0 .ready none))
  have e1 : Ext none' w w1 := (Ext.alloc _ _ _).trans (Ext.alloc _ _ _)
  have hs1 : w1.heap.size = w.heap.size + 2 := by show ((w.alloc _).alloc _).heap.size = _; simp [World.size_alloc]
  have H1 : Holds w1 (own l (.loop (rec0 .ready none)) :: own D (.deferred (some [])) :: L) := by
    have := (H.alloc (.deferred (some []))).alloc (.loop (rec0 .ready none))
    rw [World.size_alloc] at this; exact this
  -- what the loop stands on
  let J (pre : List α) (B : Nat → Prop) (W : World) : Prop := ∃ Ls, I pre Ls ∧ Holds W (own l (.loop (rec0 .ready none)) :: own D (.deferred (some [])) :: Ls) ∧ (w1.heap.size ≤ W.heap.size) ∧ ∀ k, B k ↔ feet w1.heap.size (own l (.loop (rec0 .ready none)) :: own D (.deferred (some [])) :: Ls) k
  let Jx (pre : List α) (B : Nat → Prop) (W : World) : Prop := ∃ e Ls, Ix e pre Ls ∧ Holds W (own l (.loop (rec0 .done (some e.code))) :: own D (.deferred (some [])) :: Ls) ∧ (w1.heap.size ≤ W.heap.size) ∧ ∀ k, B k ↔ feet w1.heap.size (own l (.loop (rec0 .done (some e.code))) :: own D (.deferred (some [])) :: Ls) k
  have hrg : RangerH P enc hx Qp w1.heap.size l J Jx := by
    refine ⟨?_, ?_, ?_, ?_, ?_⟩
    · rintro pre B W W' ⟨Ls, h1, h2, h3, h4⟩ hs ho ht hou hk
      exact ⟨Ls, h1, h2.agree (n0 := w1.heap.size) hs ho ht hou fun k hl hf => hk k hl (hf.imp (h4 k).2 id), by omega, h4⟩
    · rintro pre B W W' ⟨e, Ls, h1, h2, h3, h4⟩ hs ho ht hou hk
      exact ⟨e, Ls, h1, h2.agree (n0 := w1.heap.size) hs ho ht hou fun k hl hf => hk k hl (hf.imp (h4 k).2 id), by omega, h4⟩
    · rintro pre B W ⟨Ls, h1, h2, h3, h4⟩
      exact ⟨h3, fun k hk => by obtain ⟨a, ha, hF, _⟩ := (h4 k).1 hk; exact (h2.ok a ha).2.1 k hF⟩
    · rintro pre B W ⟨e, Ls, h1, h2, h3, h4⟩
      exact ⟨h3, fun k hk => by obtain ⟨a, ha, hF, _⟩ := (h4 k).1 hk; exact (h2.ok a ha).2.1 k hF⟩
    · rintro pre x B W ⟨Ls, h1, h2, h3, h4⟩ hpre hok hex hnb
      have hrec := h2.getOwn 0 rfl
      refine ⟨fn, a.tmps.setIfInBounds tp (enc x), assign, body, ?_, ?_⟩
      · rw [run_yield hrec (by simp [rec0])]; simp [rec0]
      -- what lies beside the loop stays
      let aO : Atom := shr (fun k => k < W.heap.size ∧ ¬ (B k ∨ (hx x).F k)) W
      have h2X : Holds W (hx x :: own l (.loop (rec0 .ready none)) :: own D (.deferred (some [])) :: Ls) := h2.cons hok fun b hb _ k hk hF => by
        by_cases hbx : b.excl = true
        · exact (hnb k hk).1 ((h4 k).2 ⟨b, hb, hF, .inl hbx⟩)
        · have hbm : b ∈ Ls := by
            simp only [List.mem_cons] at hb
            rcases hb with rfl | rfl | hb
            · exact absurd rfl hbx
            · exact absurd rfl hbx
            · exact hb
          have h5 := hsh _ _ h1 b hbm (by simpa using hbx) k hF
          have h6 := (hnb k hk).2
          omega
      have h2O : Holds W (own l (.loop (rec0 .ready none)) :: own D (.deferred (some [])) :: aO :: hx x :: Ls) := by
        have h := h2X.share (fun k => k < W.heap.size ∧ ¬ (B k ∨ (hx x).F k)) (fun k h => h.1) (fun b hb hxx k hk hF => by
          rcases List.mem_cons.1 hb with rfl | hb
          · exact hk.2 (.inr hF)
          · exact hk.2 (.inl ((h4 k).2 ⟨b, hb, hF, .inl hxx⟩)))
        exact h.perm (by
          have p1 : (aO :: hx x :: own l (.loop (rec0 .ready none)) :: own D (.deferred (some [])) :: Ls).Perm (own l (.loop (rec0 .ready none)) :: own D (.deferred (some [])) :: ([aO, hx x] ++ Ls)) := by
            have := List.perm_append_comm (l₁ := [aO, hx x]) (l₂ := [own l (.loop (rec0 .ready none)), own D (.deferred (some []))])
            exact (this.append_right Ls)
          exact p1)
      have hb := hbody l (own l (.loop (rec0 .ready none))) (own l (.loop (rec0 .busy none))) (own D (.deferred (some []))) aO pre x Ls W h1 hpre h2O
      refine roundIn_of_wpIn trivial ?_
      have hfe : Fence.wide.inRound l = fe (some l) := rfl
      rw [hfe]
      refine wpIn_mono (hb _ (fits_param ha htp (enc x)) rfl) ?_
      rintro e a1 W1 ⟨f1, hf1, q⟩
      cases e with
      | normal =>
        obtain ⟨Ls1, hL1, hW2⟩ := q
        have hr1 := hL1.getOwn 0 rfl
        refine ⟨_, run_beginRound hr1 rfl, ?_⟩
        have hL2 := hL1.put 0 rfl (.loop (rec0 .busy none))
        refine wpIn_mono (hW2 _ hL2 a1 hf1 rfl) ?_
        -- the round's end
        have fin : ∀ (Ls2 : List Atom) (W3 : World) (st : LoopState) (j : Option Code), (∀ a ∈ Ls2, a.excl = false → ∀ k, a.F k → k < w.heap.size) → Holds W3 (own l (.loop (rec0 .busy none)) :: own D (.deferred (some [])) :: aO :: Ls2) →
            Ext (fun k => B k ∨ (hx x).F k) W (W3.putObj l (.loop (rec0 st j))) ∧ (∀ k, feet w1.heap.size (own l (.loop (rec0 st j)) :: own D (.deferred (some [])) :: Ls2) k → B k ∨ (hx x).F k ∨ W.heap.size ≤ k) ∧
            Holds (W3.putObj l (.loop (rec0 st j))) (own l (.loop (rec0 st j)) :: own D (.deferred (some [])) :: Ls2) ∧ w1.heap.size ≤ (W3.putObj l (.loop (rec0 st j))).heap.size := by
          intro Ls2 W3 st j hs2 hH3
          have hH4 := hH3.put 0 rfl (.loop (rec0 st j))
          have hO := hH4.get (i := 2) rfl
          obtain ⟨o1, o2, o3, o4, o5⟩ := hO
          refine ⟨⟨o2, o3, o4, o1, fun k hk hB => o5 k ⟨hk, hB⟩⟩, ?_, hH4.sub (List.Sublist.cons_cons _ (List.Sublist.cons_cons _ (List.Sublist.cons _ (List.Sublist.refl _)))), by omega⟩
          rintro k ⟨b, hb, hF, hor⟩
          by_cases hk : W.heap.size ≤ k
          · exact .inr (.inr hk)
          · refine or_assoc.1 (.inl (Classical.byContradiction fun hB => ?_))
            have hap := getElem_apart hH4.apart (i := 2) (a := aO) rfl
            have hb' : b ∈ (own l (.loop (rec0 st j)) :: own D (.deferred (some [])) :: aO :: Ls2).eraseIdx 2 := by
              simp only [List.eraseIdx_cons_succ, List.eraseIdx_cons_zero]; exact hb
            by_cases hbx : b.excl = true
            · exact hap b hb' (.inr hbx) k ⟨by omega, hB⟩ hF
            · rcases hor with hor | hor
              · exact hbx hor
              · have hbm : b ∈ Ls2 := by
                  simp only [List.mem_cons] at hb
                  rcases hb with rfl | rfl | hb
                  · exact absurd rfl hbx
                  · exact absurd rfl hbx
                  · exact hb
                have := hs2 b hbm (by simpa using hbx) k hF
                omega
        rintro e2 a2 W3 ⟨f3, hf3, q3⟩
        cases e2 with
        | normal =>
          obtain ⟨Ls2, hI2, hH3⟩ := q3
          obtain ⟨g1, g2, g3, g4⟩ := fin Ls2 W3 .ready none (hsh _ _ hI2) hH3
          exact ⟨_, _, run_endRound none (hH3.getOwn 0 rfl), _, g1, g2, .inl ⟨rfl, Ls2, hI2, g3, g4, fun k => Iff.rfl⟩⟩
        | ret =>
          obtain ⟨Ls2, hI2, hH3⟩ := q3
          obtain ⟨g1, g2, g3, g4⟩ := fin Ls2 W3 .done (some .ret) (hshx _ _ _ hI2) hH3
          exact ⟨_, _, run_endRound (some .ret) (hH3.getOwn 0 rfl), _, g1, g2, .inr ⟨rfl, .ret, Ls2, hI2, g3, g4, fun k => Iff.rfl⟩⟩
        | exit i =>
          obtain ⟨Ls2, hI2, hH3⟩ := q3
          obtain ⟨g1, g2, g3, g4⟩ := fin Ls2 W3 .done (some (.exit i)) (hshx _ _ _ hI2) hH3
          exact ⟨_, _, run_endRound (some (.exit i)) (hH3.getOwn 0 rfl), _, g1, g2, .inr ⟨rfl, .exit i, Ls2, hI2, g3, g4, fun k => Iff.rfl⟩⟩
        | goto i =>
          obtain ⟨Ls2, hI2, hH3⟩ := q3
          obtain ⟨g1, g2, g3, g4⟩ := fin Ls2 W3 .done (some (.goto i)) (hshx _ _ _ hI2) hH3
          exact ⟨_, _, run_endRound (some (.goto i)) (hH3.getOwn 0 rfl), _, g1, g2, .inr ⟨rfl, .goto i, Ls2, hI2, g3, g4, fun k => Iff.rfl⟩⟩
        | panic c => exact q3.elim
        | outgrown => exact q3.elim
      | exit i => exact q.elim
      | goto i => exact q.elim
      | ret => exact q.elim
      | panic c => exact q.elim
      | outgrown => exact q.elim
  have hJ0 : J [] (fun k => feet w1.heap.size (own l (.loop (rec0 .ready none)) :: own D (.deferred (some [])) :: L) k) w1 := ⟨L, hI0, H1, Nat.le_refl _, fun k => Iff.rfl⟩
  have hcall := it w1 e1 l _ J Jx hrg hJ0
  refine ⟨l, [{ target := .collected D, args := #[] }], w1, { target := .fn (.func k) cap, args := #[.func (.yield l) #[] #[]] }, w1, k, (.func (.yield l) #[] #[] :: cap.toList).toArray, w1, ?_, ?_, fun _ _ => trivial, ?_, fun h => (by cases h), ?_⟩
  · exact run_enterLoop_outer fn a.tmps #[tp] assign body
  · have hg' : a.eval g = .func (.func k) #[] cap := by rw [ha.eval]; exact hg
    have hm : (#[Operand.const (.func (.yield l) #[] #[])] : Array Operand).map a.eval = #[.func (.yield l) #[] #[]] := by simp; rfl
    simp only [resolve, rangeCall, hg', hm, Deferred.ofValue]
    rfl
  · have := en (#[.func (.yield l) #[] #[]] ++ cap) w1
    simp only [invoke]
    rw [this]; congr 2
    simp
  · refine (callsIn_wide.2 hcall).mono ?_
    rintro e w3 ⟨⟨v, rfl⟩, B', hE, hB', hJ⟩
    have hrec : ∀ st j (Ls : List Atom) W, Holds W (own l (.loop (rec0 st j)) :: own D (.deferred (some [])) :: Ls) → st ≠ .busy → (Instr.endLoop l).run P W = .ok j (W.putObj l (.loop (rec0 .exhausted j))) := fun st j Ls W hH hst => run_endLoop (hH.getOwn 0 rfl) hst
    have hfd : Fits n f { tmps := a.tmps, defers := [{ target := .collected D, args := #[] }] ++ a.defers } := ⟨ha.1, ha.2⟩
    rcases hJ with ⟨xs, hxs, Ls, hI, hH, _, _⟩ | ⟨pre, hpre, e, Ls, hI, hH, _, _⟩
    · refine ⟨none, _, hrec _ _ _ _ hH (by simp), f, hfd, ?_⟩
      have := (hH.put 0 rfl (.loop (rec0 .exhausted none))).tail
      have hq := hdone D xs Ls _ hxs hI this
      simpa [hd] using hq
    · refine ⟨some e.code, _, hrec _ _ _ _ hH (by simp), ?_⟩
      have hH' := (hH.put 0 rfl (.loop (rec0 .exhausted (some e.code)))).tail
      have hq := hexit D pre Ls _ e hpre hI hH'
      cases e with
      | ret => exact wpIn_ret ⟨f, hfd, by simpa [hd, Leave.out] using hq⟩
      | exit i => exact wpIn_exit ⟨f, hfd, by simpa [hd, Leave.out] using hq⟩
      | goto i => exact wpIn_goto ⟨f, hfd, by simpa [hd, Leave.out] using hq⟩
end
end Go.Wk

/- Data of the shard: commands, results, what was told last. -/
namespace Go.Proofs.Ytpandioolpnihaa
open Go Go.Wk
set_option linter.unusedVariables false
set_option linter.unusedSimpArgs false

/-- A cell whose value is known. -/
abbrev tC (v : Value) (h : v.oneCell' = true) : Ty Unit := tLit (fun _ => v) (fun _ => True) fun _ => h
structure Wr where
  key : Key
  dead : Bool
  val : Key
  deriving DecidableEq
structure Co where
  name : ByteArray
  kind : Int
  nn : Bool
structure Tb where
  id : Int
  name : ByteArray
  cols : List Co
  key : Int
  idx : List Int
structure Lk where
  txn : Int
  level : Int
  mode : Int
  lo : Key
  hi : Key
structure Cmd where
  client : Int
  seq : Int
  kind : Int
  txn : Int
  ts : Int
  flag : Bool
  lk : Lk
  lo : Key
  hi : Key
  txns : List Int
  writes : List Wr
  keys : List Key
  tb : Tb
structure Rs where
  err : Int
  cells : List Cl
  deriving DecidableEq
structure Told where
  client : Int
  seq : Int
  r : Rs
  deriving DecidableEq
abbrev tWr : Ty Wr := tMap (tPair tKey (tPair tBool tKey)) fun x => (x.key, x.dead, x.val)
abbrev tCo : Ty Co := tMap (tPair tStr (tPair (tInt .i64) tBool)) fun x => (x.name, x.kind, x.nn)
abbrev tTb : Ty Tb := tMap (tPair (tInt .i64) (tPair tStr (tPair (tSlice tCo 32) (tPair (tInt .i64) (tSlice (tInt .i64) 8))))) fun x => (x.id, x.name, x.cols, x.key, x.idx)
abbrev tLk : Ty Lk := tMap (tPair (tInt .u64) (tPair (tInt .i64) (tPair (tInt .i64) (tPair tKey tKey)))) fun x => (x.txn, x.level, x.mode, x.lo, x.hi)
abbrev tCmd : Ty Cmd := tMap (tPair (tInt .u64) (tPair (tInt .u64) (tPair (tInt .i64) (tPair (tInt .u64) (tPair (tInt .u64) (tPair tBool (tPair tLk (tPair tKey (tPair tKey (tPair (tSlice (tInt .u64) 8) (tPair (tSlice tWr 56) (tPair tKeys tTb))))))))))))
  fun x => (x.client, x.seq, x.kind, x.txn, x.ts, x.flag, x.lk, x.lo, x.hi, x.txns, x.writes, x.keys, x.tb)
abbrev tRes : Ty Rs := tMap (tPair (tInt .i64) (tPair (tC (.int .u64 0) rfl) (tPair (tC (.int .u64 0) rfl) (tPair (tC (.bool false) rfl) (tPair (tC (.slice none 0 0) rfl) (tPair (tSlice tCl 120) (tC (.slice none 0 0) rfl))))))) fun r => (r.err, (), (), (), (), r.cells, ())
abbrev tTold : Ty Told := tMap (tPair (tInt .u64) (tPair (tInt .u64) tRes)) fun t => (t.client, t.seq, t.r)
theorem wr_cells {Z : Nat → Prop} {w : World} {cs : List Value} {x : Wr} : tWr.R Z w cs x ↔ ∃ vk vv, cs = [vk, .bool x.dead, vv] ∧ SlR (tInt .u8) 1 Z w vk x.key ∧ SlR (tInt .u8) 1 Z w vv x.val := by
  constructor
  · rintro ⟨_, _, rfl, ⟨vk, rfl, h1⟩, _, _, rfl, ⟨rfl, _⟩, vv, rfl, h2⟩
    exact ⟨vk, vv, rfl, h1, h2⟩
  · rintro ⟨vk, vv, rfl, h1, h2⟩
    exact ⟨[vk], _, rfl, ⟨vk, rfl, h1⟩, [.bool x.dead], [vv], rfl, ⟨rfl, trivial⟩, vv, rfl, h2⟩
theorem res_cells {Z : Nat → Prop} {w : World} {cs : List Value} {r : Rs} : tRes.R Z w cs r ↔ ∃ v, cs = [.int .i64 r.err, .int .u64 0, .int .u64 0, .bool false, .slice none 0 0, v, .slice none 0 0] ∧ InK .i64 r.err ∧ SlR tCl 120 Z w v r.cells := by
  constructor
  · rintro ⟨_, _, rfl, ⟨rfl, h1⟩, _, _, rfl, ⟨rfl, _⟩, _, _, rfl, ⟨rfl, _⟩, _, _, rfl, ⟨rfl, _⟩, _, _, rfl, ⟨rfl, _⟩, _, _, rfl, ⟨v, rfl, h2⟩, ⟨rfl, _⟩⟩
    exact ⟨v, rfl, h1, h2⟩
  · rintro ⟨v, rfl, h1, h2⟩
    exact ⟨[.int .i64 r.err], _, rfl, ⟨rfl, h1⟩, [.int .u64 0], _, rfl, ⟨rfl, trivial⟩, [.int .u64 0], _, rfl, ⟨rfl, trivial⟩, [.bool false], _, rfl, ⟨rfl, trivial⟩, [.slice none 0 0], _, rfl, ⟨rfl, trivial⟩, [v], [.slice none 0 0], rfl, ⟨v, rfl, h2⟩, ⟨rfl, trivial⟩⟩
theorem told_cells {Z : Nat → Prop} {w : World} {cs : List Value} {t : Told} : tTold.R Z w cs t ↔ ∃ rs, cs = .int .u64 t.client :: .int .u64 t.seq :: rs ∧ InK .u64 t.client ∧ InK .u64 t.seq ∧ tRes.R Z w rs t.r := by
  constructor
  · rintro ⟨_, _, rfl, ⟨rfl, h1⟩, _, rs, rfl, ⟨rfl, h2⟩, h3⟩
    exact ⟨rs, rfl, h1, h2, h3⟩
  · rintro ⟨rs, rfl, h1, h2, h3⟩
    exact ⟨[.int .u64 t.client], _, rfl, ⟨rfl, h1⟩, [.int .u64 t.seq], rs, rfl, ⟨rfl, h2⟩, h3⟩
theorem cmd_cells {Z : Nat → Prop} {w : World} {cs : List Value} {c : Cmd} : tCmd.R Z w cs c ↔ ∃ vll vlh vlo vhi vtx vwr vke vco vix, cs = [.int .u64 c.client, .int .u64 c.seq, .int .i64 c.kind, .int .u64 c.txn, .int .u64 c.ts, .bool c.flag, .int .u64 c.lk.txn, .int .i64 c.lk.level, .int .i64 c.lk.mode, vll, vlh, vlo, vhi, vtx, vwr, vke, .int .i64 c.tb.id, .string c.tb.name, vco, .int .i64 c.tb.key, vix] ∧
    InK .u64 c.client ∧ InK .u64 c.seq ∧ InK .i64 c.kind ∧ InK .u64 c.txn ∧ InK .u64 c.ts ∧ (InK .u64 c.lk.txn ∧ InK .i64 c.lk.level ∧ InK .i64 c.lk.mode ∧ SlR (tInt .u8) 1 Z w vll c.lk.lo ∧ SlR (tInt .u8) 1 Z w vlh c.lk.hi) ∧ SlR (tInt .u8) 1 Z w vlo c.lo ∧ SlR (tInt .u8) 1 Z w vhi c.hi ∧ SlR (tInt .u64) 8 Z w vtx c.txns ∧ SlR tWr 56 Z w vwr c.writes ∧ SlR tKey 24 Z w vke c.keys ∧
    (InK .i64 c.tb.id ∧ StrOk c.tb.name ∧ SlR tCo 32 Z w vco c.tb.cols ∧ InK .i64 c.tb.key ∧ SlR (tInt .i64) 8 Z w vix c.tb.idx) := by
  constructor
  · rintro ⟨_, _, rfl, ⟨rfl, h1⟩, _, _, rfl, ⟨rfl, h2⟩, _, _, rfl, ⟨rfl, h3⟩, _, _, rfl, ⟨rfl, h4⟩, _, _, rfl, ⟨rfl, h5⟩, _, _, rfl, ⟨rfl, _⟩, _, _, rfl, ⟨_, _, rfl, ⟨rfl, l1⟩, _, _, rfl, ⟨rfl, l2⟩, _, _, rfl, ⟨rfl, l3⟩, _, _, rfl, ⟨vll, rfl, l4⟩, vlh, rfl, l5⟩, _, _, rfl, ⟨vlo, rfl, h7⟩, _, _, rfl, ⟨vhi, rfl, h8⟩, _, _, rfl, ⟨vtx, rfl, h9⟩, _, _, rfl, ⟨vwr, rfl, h10⟩, _, _, rfl, ⟨vke, rfl, h11⟩, _, _, rfl, ⟨rfl, t1⟩, _, _, rfl, ⟨rfl, t2⟩, _, _, rfl, ⟨vco, rfl, t3⟩, _, _, rfl, ⟨rfl, t4⟩, vix, rfl, t5⟩
    exact ⟨vll, vlh, vlo, vhi, vtx, vwr, vke, vco, vix, rfl, h1, h2, h3, h4, h5, ⟨l1, l2, l3, l4, l5⟩, h7, h8, h9, h10, h11, t1, t2, t3, t4, t5⟩
  · rintro ⟨vll, vlh, vlo, vhi, vtx, vwr, vke, vco, vix, rfl, h1, h2, h3, h4, h5, ⟨l1, l2, l3, l4, l5⟩, h7, h8, h9, h10, h11, t1, t2, t3, t4, t5⟩
    exact ⟨[_], _, rfl, ⟨rfl, h1⟩, [_], _, rfl, ⟨rfl, h2⟩, [_], _, rfl, ⟨rfl, h3⟩, [_], _, rfl, ⟨rfl, h4⟩, [_], _, rfl, ⟨rfl, h5⟩, [_], _, rfl, ⟨rfl, trivial⟩, [_, _, _, _, _], _, rfl, ⟨[_], _, rfl, ⟨rfl, l1⟩, [_], _, rfl, ⟨rfl, l2⟩, [_], _, rfl, ⟨rfl, l3⟩, [_], [_], rfl, ⟨vll, rfl, l4⟩, vlh, rfl, l5⟩, [_], _, rfl, ⟨vlo, rfl, h7⟩, [_], _, rfl, ⟨vhi, rfl, h8⟩, [_], _, rfl, ⟨vtx, rfl, h9⟩, [_], _, rfl, ⟨vwr, rfl, h10⟩, [_], [_, _, _, _, _], rfl, ⟨vke, rfl, h11⟩, [_], _, rfl, ⟨rfl, t1⟩, [_], _, rfl, ⟨rfl, t2⟩, [_], _, rfl, ⟨vco, rfl, t3⟩, [_], [_], rfl, ⟨rfl, t4⟩, vix, rfl, t5⟩
end Go.Proofs.Ytpandioolpnihaa
