/- CLOSED FACTS of this seat's program: its types' rows, its functions' bodies. -/
import Derived.Test.YtelgegodeifbiaaWkd
import Derived.Test.YtelgegodeifbiaaProg
namespace Go.Proofs.Ytelgegodeifbiaa
open Go Go.Wk
set_option linter.unusedVariables false

theorem ti0 : TI Try.prog 0 1 0 (Go.Value.tuple #[]) (Go.TypeDesc.tuple #[]) := ⟨Try.underlying0, Try.t0, by kernel_rfl, rfl, rfl, rfl⟩
theorem ti1 : TI Try.prog 1 1 8 Go.Value.nilFunc (Go.TypeDesc.func #[] #[] false) := ⟨Try.underlying1, Try.t1, by kernel_rfl, rfl, rfl, rfl⟩
theorem ti2 : TI Try.prog 2 1 8 (Go.Value.int Go.IntKind.i64 0) (Go.TypeDesc.int Go.IntKind.i64) := ⟨Try.underlying2, Try.t2, by kernel_rfl, rfl, rfl, rfl⟩
theorem ti3 : TI Try.prog 3 1 8 (Go.Value.int Go.IntKind.i64 0) (Go.TypeDesc.int Go.IntKind.i64) := ⟨Try.underlying3, Try.t3, by kernel_rfl, rfl, rfl, rfl⟩
theorem ti4 : TI Try.prog 4 1 1 (Go.Value.bool false) Go.TypeDesc.bool := ⟨Try.underlying4, Try.t4, by kernel_rfl, rfl, rfl, rfl⟩
theorem ti5 : TI Try.prog 5 1 1 (Go.Value.int Go.IntKind.u8 0) (Go.TypeDesc.int Go.IntKind.u8) := ⟨Try.underlying5, Try.t5, by kernel_rfl, rfl, rfl, rfl⟩
theorem ti6 : TI Try.prog 6 1 1 (Go.Value.int Go.IntKind.u8 0) (Go.TypeDesc.int Go.IntKind.u8) := ⟨Try.underlying6, Try.t6, by kernel_rfl, rfl, rfl, rfl⟩
theorem ti7 : TI Try.prog 7 4 24 (Go.Value.agg #[(Go.Value.int Go.IntKind.i64 0), (Go.Value.int Go.IntKind.i64 0), (Go.Value.bool false), (Go.Value.int Go.IntKind.u8 0)]) (Go.TypeDesc.struct #[{ name := "x", type := 2, offset := 0, embedded := false, tag := "", pkgPath := "runtime", byteOffset := 0 }, { name := "y", type := 3, offset := 1, embedded := false, tag := "", pkgPath := "runtime", byteOffset := 8 }, { name := "signed", type := 4, offset := 2, embedded := false, tag := "", pkgPath := "runtime", byteOffset := 16 }, { name := "code", type := 6, offset := 3, embedded := false, tag := "", pkgPath := "runtime", byteOffset := 17 }]) := ⟨Try.underlying7, Try.t7, by kernel_rfl, rfl, rfl, rfl⟩
theorem pl7 : Places Try.prog #[{ name := "x", type := 2, offset := 0, embedded := false, tag := "", pkgPath := "runtime", byteOffset := 0 }, { name := "y", type := 3, offset := 1, embedded := false, tag := "", pkgPath := "runtime", byteOffset := 8 }, { name := "signed", type := 4, offset := 2, embedded := false, tag := "", pkgPath := "runtime", byteOffset := 16 }, { name := "code", type := 6, offset := 3, embedded := false, tag := "", pkgPath := "runtime", byteOffset := 17 }] #[(0, 1), (1, 1), (2, 1), (3, 1)] := fun w => by kernel_rfl
theorem ti8 : TI Try.prog 8 4 24 (Go.Value.agg #[(Go.Value.int Go.IntKind.i64 0), (Go.Value.int Go.IntKind.i64 0), (Go.Value.bool false), (Go.Value.int Go.IntKind.u8 0)]) (Go.TypeDesc.struct #[{ name := "x", type := 2, offset := 0, embedded := false, tag := "", pkgPath := "runtime", byteOffset := 0 }, { name := "y", type := 3, offset := 1, embedded := false, tag := "", pkgPath := "runtime", byteOffset := 8 }, { name := "signed", type := 4, offset := 2, embedded := false, tag := "", pkgPath := "runtime", byteOffset := 16 }, { name := "code", type := 6, offset := 3, embedded := false, tag := "", pkgPath := "runtime", byteOffset := 17 }]) := ⟨Try.underlying8, Try.t8, by kernel_rfl, rfl, rfl, rfl⟩
theorem pl8 : Places Try.prog #[{ name := "x", type := 2, offset := 0, embedded := false, tag := "", pkgPath := "runtime", byteOffset := 0 }, { name := "y", type := 3, offset := 1, embedded := false, tag := "", pkgPath := "runtime", byteOffset := 8 }, { name := "signed", type := 4, offset := 2, embedded := false, tag := "", pkgPath := "runtime", byteOffset := 16 }, { name := "code", type := 6, offset := 3, embedded := false, tag := "", pkgPath := "runtime", byteOffset := 17 }] #[(0, 1), (1, 1), (2, 1), (3, 1)] := fun w => by kernel_rfl
theorem ti9 : TI Try.prog 9 1 16 (Go.Value.string { data := #[] }) Go.TypeDesc.string := ⟨Try.underlying9, Try.t9, by kernel_rfl, rfl, rfl, rfl⟩
theorem ti10 : TI Try.prog 10 1 16 (Go.Value.string { data := #[] }) Go.TypeDesc.string := ⟨Try.underlying10, Try.t10, by kernel_rfl, rfl, rfl, rfl⟩
theorem ti11 : TI Try.prog 11 1 16 (Go.Value.string { data := #[] }) Go.TypeDesc.string := ⟨Try.underlying11, Try.t11, by kernel_rfl, rfl, rfl, rfl⟩
theorem ti12 : TI Try.prog 12 1 8 (Go.Value.int Go.IntKind.u64 0) (Go.TypeDesc.int Go.IntKind.u64) := ⟨Try.underlying12, Try.t12, by kernel_rfl, rfl, rfl, rfl⟩
theorem ti13 : TI Try.prog 13 2 24 (Go.Value.agg #[(Go.Value.string { data := #[] }), (Go.Value.int Go.IntKind.u64 0)]) (Go.TypeDesc.struct #[{ name := "msg", type := 9, offset := 0, embedded := false, tag := "", pkgPath := "runtime", byteOffset := 0 }, { name := "addr", type := 12, offset := 1, embedded := false, tag := "", pkgPath := "runtime", byteOffset := 16 }]) := ⟨Try.underlying13, Try.t13, by kernel_rfl, rfl, rfl, rfl⟩
theorem pl13 : Places Try.prog #[{ name := "msg", type := 9, offset := 0, embedded := false, tag := "", pkgPath := "runtime", byteOffset := 0 }, { name := "addr", type := 12, offset := 1, embedded := false, tag := "", pkgPath := "runtime", byteOffset := 16 }] #[(0, 1), (1, 1)] := fun w => by kernel_rfl
theorem ti14 : TI Try.prog 14 2 24 (Go.Value.agg #[(Go.Value.string { data := #[] }), (Go.Value.int Go.IntKind.u64 0)]) (Go.TypeDesc.struct #[{ name := "msg", type := 9, offset := 0, embedded := false, tag := "", pkgPath := "runtime", byteOffset := 0 }, { name := "addr", type := 12, offset := 1, embedded := false, tag := "", pkgPath := "runtime", byteOffset := 16 }]) := ⟨Try.underlying14, Try.t14, by kernel_rfl, rfl, rfl, rfl⟩
theorem pl14 : Places Try.prog #[{ name := "msg", type := 9, offset := 0, embedded := false, tag := "", pkgPath := "runtime", byteOffset := 0 }, { name := "addr", type := 12, offset := 1, embedded := false, tag := "", pkgPath := "runtime", byteOffset := 16 }] #[(0, 1), (1, 1)] := fun w => by kernel_rfl
theorem ti15 : TI Try.prog 15 1 8 (Go.Value.pointer none) (Go.TypeDesc.pointer 112) := ⟨Try.underlying15, Try.t15, by kernel_rfl, rfl, rfl, rfl⟩
theorem ti16 : TI Try.prog 16 1 8 (Go.Value.pointer none) (Go.TypeDesc.pointer 115) := ⟨Try.underlying16, Try.t16, by kernel_rfl, rfl, rfl, rfl⟩
theorem ti17 : TI Try.prog 17 1 8 (Go.Value.pointer none) (Go.TypeDesc.pointer 124) := ⟨Try.underlying17, Try.t17, by kernel_rfl, rfl, rfl, rfl⟩
theorem ti18 : TI Try.prog 18 1 8 (Go.Value.agg #[(Go.Value.pointer none)]) (Go.TypeDesc.struct #[{ name := "typ", type := 17, offset := 0, embedded := false, tag := "", pkgPath := "internal/runtime/maps", byteOffset := 0 }]) := ⟨Try.underlying18, Try.t18, by kernel_rfl, rfl, rfl, rfl⟩
theorem pl18 : Places Try.prog #[{ name := "typ", type := 17, offset := 0, embedded := false, tag := "", pkgPath := "internal/runtime/maps", byteOffset := 0 }] #[(0, 1)] := fun w => by kernel_rfl
theorem ti19 : TI Try.prog 19 1 8 (Go.Value.agg #[(Go.Value.pointer none)]) (Go.TypeDesc.struct #[{ name := "typ", type := 17, offset := 0, embedded := false, tag := "", pkgPath := "internal/runtime/maps", byteOffset := 0 }]) := ⟨Try.underlying19, Try.t19, by kernel_rfl, rfl, rfl, rfl⟩
theorem pl19 : Places Try.prog #[{ name := "typ", type := 17, offset := 0, embedded := false, tag := "", pkgPath := "internal/runtime/maps", byteOffset := 0 }] #[(0, 1)] := fun w => by kernel_rfl
theorem ti20 : TI Try.prog 20 1 16 Go.Value.nilIface (Go.TypeDesc.interface #[]) := ⟨Try.underlying20, Try.t20, by kernel_rfl, rfl, rfl, rfl⟩
theorem ti21 : TI Try.prog 21 1 4 (Go.Value.int Go.IntKind.i32 0) (Go.TypeDesc.int Go.IntKind.i32) := ⟨Try.underlying21, Try.t21, by kernel_rfl, rfl, rfl, rfl⟩
theorem ti22 : TI Try.prog 22 1 24 (Go.Value.slice none 0 0) (Go.TypeDesc.slice 48) := ⟨Try.underlying22, Try.t22, by kernel_rfl, rfl, rfl, rfl⟩
theorem ti23 : TI Try.prog 23 1 8 Go.Value.nilFunc (Go.TypeDesc.func #[] #[4] false) := ⟨Try.underlying23, Try.t23, by kernel_rfl, rfl, rfl, rfl⟩
theorem ti24 : TI Try.prog 24 1 8 Go.Value.nilFunc (Go.TypeDesc.func #[22] #[4] false) := ⟨Try.underlying24, Try.t24, by kernel_rfl, rfl, rfl, rfl⟩
theorem ti25 : TI Try.prog 25 1 8 Go.Value.nilFunc (Go.TypeDesc.func #[22, 3] #[4] false) := ⟨Try.underlying25, Try.t25, by kernel_rfl, rfl, rfl, rfl⟩
theorem ti26 : TI Try.prog 26 1 8 (Go.Value.int Go.IntKind.u64 0) (Go.TypeDesc.int Go.IntKind.u64) := ⟨Try.underlying26, Try.t26, by kernel_rfl, rfl, rfl, rfl⟩
theorem ti27 : TI Try.prog 27 1 24 (Go.Value.slice none 0 0) (Go.TypeDesc.slice 33) := ⟨Try.underlying27, Try.t27, by kernel_rfl, rfl, rfl, rfl⟩
theorem ti28 : TI Try.prog 28 1 8 Go.Value.nilFunc (Go.TypeDesc.func #[22] #[27] false) := ⟨Try.underlying28, Try.t28, by kernel_rfl, rfl, rfl, rfl⟩
theorem ti29 : TI Try.prog 29 1 24 (Go.Value.slice none 0 0) (Go.TypeDesc.slice 38) := ⟨Try.underlying29, Try.t29, by kernel_rfl, rfl, rfl, rfl⟩
theorem ti30 : TI Try.prog 30 1 24 (Go.Value.slice none 0 0) (Go.TypeDesc.slice 50) := ⟨Try.underlying30, Try.t30, by kernel_rfl, rfl, rfl, rfl⟩
theorem ti31 : TI Try.prog 31 1 24 (Go.Value.slice none 0 0) (Go.TypeDesc.slice 46) := ⟨Try.underlying31, Try.t31, by kernel_rfl, rfl, rfl, rfl⟩
theorem ti32 : TI Try.prog 32 8 112 (Go.Value.agg #[(Go.Value.int Go.IntKind.u64 0), (Go.Value.int Go.IntKind.i64 0), (Go.Value.int Go.IntKind.i64 0), (Go.Value.int Go.IntKind.u64 0), (Go.Value.int Go.IntKind.u64 0), (Go.Value.slice none 0 0), (Go.Value.slice none 0 0), (Go.Value.slice none 0 0)]) (Go.TypeDesc.struct #[{ name := "Txn", type := 26, offset := 0, embedded := false, tag := "", pkgPath := "", byteOffset := 0 }, { name := "Level", type := 3, offset := 1, embedded := false, tag := "", pkgPath := "", byteOffset := 8 }, { name := "State", type := 3, offset := 2, embedded := false, tag := "", pkgPath := "", byteOffset := 16 }, { name := "Start", type := 26, offset := 3, embedded := false, tag := "", pkgPath := "", byteOffset := 24 }, { name := "Ts", type := 26, offset := 4, embedded := false, tag := "", pkgPath := "", byteOffset := 32 }, { name := "Keys", type := 29, offset := 5, embedded := false, tag := "", pkgPath := "", byteOffset := 40 }, { name := "Seen", type := 30, offset := 6, embedded := false, tag := "", pkgPath := "", byteOffset := 64 }, { name := "Spans", type := 31, offset := 7, embedded := false, tag := "", pkgPath := "", byteOffset := 88 }]) := ⟨Try.underlying32, Try.t32, by kernel_rfl, rfl, rfl, rfl⟩
theorem pl32 : Places Try.prog #[{ name := "Txn", type := 26, offset := 0, embedded := false, tag := "", pkgPath := "", byteOffset := 0 }, { name := "Level", type := 3, offset := 1, embedded := false, tag := "", pkgPath := "", byteOffset := 8 }, { name := "State", type := 3, offset := 2, embedded := false, tag := "", pkgPath := "", byteOffset := 16 }, { name := "Start", type := 26, offset := 3, embedded := false, tag := "", pkgPath := "", byteOffset := 24 }, { name := "Ts", type := 26, offset := 4, embedded := false, tag := "", pkgPath := "", byteOffset := 32 }, { name := "Keys", type := 29, offset := 5, embedded := false, tag := "", pkgPath := "", byteOffset := 40 }, { name := "Seen", type := 30, offset := 6, embedded := false, tag := "", pkgPath := "", byteOffset := 64 }, { name := "Spans", type := 31, offset := 7, embedded := false, tag := "", pkgPath := "", byteOffset := 88 }] #[(0, 1), (1, 1), (2, 1), (3, 1), (4, 1), (5, 1), (6, 1), (7, 1)] := fun w => by kernel_rfl
theorem ti33 : TI Try.prog 33 8 112 (Go.Value.agg #[(Go.Value.int Go.IntKind.u64 0), (Go.Value.int Go.IntKind.i64 0), (Go.Value.int Go.IntKind.i64 0), (Go.Value.int Go.IntKind.u64 0), (Go.Value.int Go.IntKind.u64 0), (Go.Value.slice none 0 0), (Go.Value.slice none 0 0), (Go.Value.slice none 0 0)]) (Go.TypeDesc.struct #[{ name := "Txn", type := 26, offset := 0, embedded := false, tag := "", pkgPath := "", byteOffset := 0 }, { name := "Level", type := 3, offset := 1, embedded := false, tag := "", pkgPath := "", byteOffset := 8 }, { name := "State", type := 3, offset := 2, embedded := false, tag := "", pkgPath := "", byteOffset := 16 }, { name := "Start", type := 26, offset := 3, embedded := false, tag := "", pkgPath := "", byteOffset := 24 }, { name := "Ts", type := 26, offset := 4, embedded := false, tag := "", pkgPath := "", byteOffset := 32 }, { name := "Keys", type := 29, offset := 5, embedded := false, tag := "", pkgPath := "", byteOffset := 40 }, { name := "Seen", type := 30, offset := 6, embedded := false, tag := "", pkgPath := "", byteOffset := 64 }, { name := "Spans", type := 31, offset := 7, embedded := false, tag := "", pkgPath := "", byteOffset := 88 }]) := ⟨Try.underlying33, Try.t33, by kernel_rfl, rfl, rfl, rfl⟩
theorem pl33 : Places Try.prog #[{ name := "Txn", type := 26, offset := 0, embedded := false, tag := "", pkgPath := "", byteOffset := 0 }, { name := "Level", type := 3, offset := 1, embedded := false, tag := "", pkgPath := "", byteOffset := 8 }, { name := "State", type := 3, offset := 2, embedded := false, tag := "", pkgPath := "", byteOffset := 16 }, { name := "Start", type := 26, offset := 3, embedded := false, tag := "", pkgPath := "", byteOffset := 24 }, { name := "Ts", type := 26, offset := 4, embedded := false, tag := "", pkgPath := "", byteOffset := 32 }, { name := "Keys", type := 29, offset := 5, embedded := false, tag := "", pkgPath := "", byteOffset := 40 }, { name := "Seen", type := 30, offset := 6, embedded := false, tag := "", pkgPath := "", byteOffset := 64 }, { name := "Spans", type := 31, offset := 7, embedded := false, tag := "", pkgPath := "", byteOffset := 88 }] #[(0, 1), (1, 1), (2, 1), (3, 1), (4, 1), (5, 1), (6, 1), (7, 1)] := fun w => by kernel_rfl
theorem ti34 : TI Try.prog 34 1 0 (Go.Value.tuple #[(Go.Value.agg #[(Go.Value.int Go.IntKind.u64 0), (Go.Value.int Go.IntKind.i64 0), (Go.Value.int Go.IntKind.i64 0), (Go.Value.int Go.IntKind.u64 0), (Go.Value.int Go.IntKind.u64 0), (Go.Value.slice none 0 0), (Go.Value.slice none 0 0), (Go.Value.slice none 0 0)]), (Go.Value.bool false)]) (Go.TypeDesc.tuple #[33, 4]) := ⟨Try.underlying34, Try.t34, by kernel_rfl, rfl, rfl, rfl⟩
theorem ti35 : TI Try.prog 35 1 8 Go.Value.nilFunc (Go.TypeDesc.func #[27, 26] #[33, 4] false) := ⟨Try.underlying35, Try.t35, by kernel_rfl, rfl, rfl, rfl⟩
theorem ti36 : TI Try.prog 36 1 8 Go.Value.nilFunc (Go.TypeDesc.func #[27, 27] #[4] false) := ⟨Try.underlying36, Try.t36, by kernel_rfl, rfl, rfl, rfl⟩
theorem ti37 : TI Try.prog 37 1 8 Go.Value.nilFunc (Go.TypeDesc.func #[22, 26] #[4] false) := ⟨Try.underlying37, Try.t37, by kernel_rfl, rfl, rfl, rfl⟩
theorem ti38 : TI Try.prog 38 1 24 (Go.Value.slice none 0 0) (Go.TypeDesc.slice 5) := ⟨Try.underlying38, Try.t38, by kernel_rfl, rfl, rfl, rfl⟩
theorem ti39 : TI Try.prog 39 1 24 (Go.Value.slice none 0 0) (Go.TypeDesc.slice 26) := ⟨Try.underlying39, Try.t39, by kernel_rfl, rfl, rfl, rfl⟩
theorem ti40 : TI Try.prog 40 1 8 Go.Value.nilFunc (Go.TypeDesc.func #[27, 38] #[39] false) := ⟨Try.underlying40, Try.t40, by kernel_rfl, rfl, rfl, rfl⟩
theorem ti41 : TI Try.prog 41 1 8 Go.Value.nilFunc (Go.TypeDesc.func #[22, 38] #[4] false) := ⟨Try.underlying41, Try.t41, by kernel_rfl, rfl, rfl, rfl⟩
theorem ti42 : TI Try.prog 42 1 8 Go.Value.nilFunc (Go.TypeDesc.func #[29, 29] #[4] false) := ⟨Try.underlying42, Try.t42, by kernel_rfl, rfl, rfl, rfl⟩
theorem ti43 : TI Try.prog 43 1 8 Go.Value.nilFunc (Go.TypeDesc.func #[27] #[29] false) := ⟨Try.underlying43, Try.t43, by kernel_rfl, rfl, rfl, rfl⟩
theorem ti44 : TI Try.prog 44 1 8 Go.Value.nilFunc (Go.TypeDesc.func #[39, 39] #[4] false) := ⟨Try.underlying44, Try.t44, by kernel_rfl, rfl, rfl, rfl⟩
theorem ti45 : TI Try.prog 45 2 48 (Go.Value.agg #[(Go.Value.slice none 0 0), (Go.Value.slice none 0 0)]) (Go.TypeDesc.struct #[{ name := "Lo", type := 38, offset := 0, embedded := false, tag := "", pkgPath := "", byteOffset := 0 }, { name := "Hi", type := 38, offset := 1, embedded := false, tag := "", pkgPath := "", byteOffset := 24 }]) := ⟨Try.underlying45, Try.t45, by kernel_rfl, rfl, rfl, rfl⟩
theorem pl45 : Places Try.prog #[{ name := "Lo", type := 38, offset := 0, embedded := false, tag := "", pkgPath := "", byteOffset := 0 }, { name := "Hi", type := 38, offset := 1, embedded := false, tag := "", pkgPath := "", byteOffset := 24 }] #[(0, 1), (1, 1)] := fun w => by kernel_rfl
theorem ti46 : TI Try.prog 46 2 48 (Go.Value.agg #[(Go.Value.slice none 0 0), (Go.Value.slice none 0 0)]) (Go.TypeDesc.struct #[{ name := "Lo", type := 38, offset := 0, embedded := false, tag := "", pkgPath := "", byteOffset := 0 }, { name := "Hi", type := 38, offset := 1, embedded := false, tag := "", pkgPath := "", byteOffset := 24 }]) := ⟨Try.underlying46, Try.t46, by kernel_rfl, rfl, rfl, rfl⟩
theorem pl46 : Places Try.prog #[{ name := "Lo", type := 38, offset := 0, embedded := false, tag := "", pkgPath := "", byteOffset := 0 }, { name := "Hi", type := 38, offset := 1, embedded := false, tag := "", pkgPath := "", byteOffset := 24 }] #[(0, 1), (1, 1)] := fun w => by kernel_rfl
theorem ti47 : TI Try.prog 47 8 128 (Go.Value.agg #[(Go.Value.int Go.IntKind.i64 0), (Go.Value.int Go.IntKind.u64 0), (Go.Value.int Go.IntKind.i64 0), (Go.Value.int Go.IntKind.u64 0), (Go.Value.slice none 0 0), (Go.Value.slice none 0 0), (Go.Value.slice none 0 0), (Go.Value.slice none 0 0)]) (Go.TypeDesc.struct #[{ name := "Kind", type := 3, offset := 0, embedded := false, tag := "", pkgPath := "", byteOffset := 0 }, { name := "Txn", type := 26, offset := 1, embedded := false, tag := "", pkgPath := "", byteOffset := 8 }, { name := "Level", type := 3, offset := 2, embedded := false, tag := "", pkgPath := "", byteOffset := 16 }, { name := "Ts", type := 26, offset := 3, embedded := false, tag := "", pkgPath := "", byteOffset := 24 }, { name := "Span", type := 46, offset := 4, embedded := false, tag := "", pkgPath := "", byteOffset := 32 }, { name := "Seen", type := 30, offset := 6, embedded := false, tag := "", pkgPath := "", byteOffset := 80 }, { name := "Keys", type := 29, offset := 7, embedded := false, tag := "", pkgPath := "", byteOffset := 104 }]) := ⟨Try.underlying47, Try.t47, by kernel_rfl, rfl, rfl, rfl⟩
theorem pl47 : Places Try.prog #[{ name := "Kind", type := 3, offset := 0, embedded := false, tag := "", pkgPath := "", byteOffset := 0 }, { name := "Txn", type := 26, offset := 1, embedded := false, tag := "", pkgPath := "", byteOffset := 8 }, { name := "Level", type := 3, offset := 2, embedded := false, tag := "", pkgPath := "", byteOffset := 16 }, { name := "Ts", type := 26, offset := 3, embedded := false, tag := "", pkgPath := "", byteOffset := 24 }, { name := "Span", type := 46, offset := 4, embedded := false, tag := "", pkgPath := "", byteOffset := 32 }, { name := "Seen", type := 30, offset := 6, embedded := false, tag := "", pkgPath := "", byteOffset := 80 }, { name := "Keys", type := 29, offset := 7, embedded := false, tag := "", pkgPath := "", byteOffset := 104 }] #[(0, 1), (1, 1), (2, 1), (3, 1), (4, 2), (6, 1), (7, 1)] := fun w => by kernel_rfl
theorem ti48 : TI Try.prog 48 8 128 (Go.Value.agg #[(Go.Value.int Go.IntKind.i64 0), (Go.Value.int Go.IntKind.u64 0), (Go.Value.int Go.IntKind.i64 0), (Go.Value.int Go.IntKind.u64 0), (Go.Value.slice none 0 0), (Go.Value.slice none 0 0), (Go.Value.slice none 0 0), (Go.Value.slice none 0 0)]) (Go.TypeDesc.struct #[{ name := "Kind", type := 3, offset := 0, embedded := false, tag := "", pkgPath := "", byteOffset := 0 }, { name := "Txn", type := 26, offset := 1, embedded := false, tag := "", pkgPath := "", byteOffset := 8 }, { name := "Level", type := 3, offset := 2, embedded := false, tag := "", pkgPath := "", byteOffset := 16 }, { name := "Ts", type := 26, offset := 3, embedded := false, tag := "", pkgPath := "", byteOffset := 24 }, { name := "Span", type := 46, offset := 4, embedded := false, tag := "", pkgPath := "", byteOffset := 32 }, { name := "Seen", type := 30, offset := 6, embedded := false, tag := "", pkgPath := "", byteOffset := 80 }, { name := "Keys", type := 29, offset := 7, embedded := false, tag := "", pkgPath := "", byteOffset := 104 }]) := ⟨Try.underlying48, Try.t48, by kernel_rfl, rfl, rfl, rfl⟩
theorem pl48 : Places Try.prog #[{ name := "Kind", type := 3, offset := 0, embedded := false, tag := "", pkgPath := "", byteOffset := 0 }, { name := "Txn", type := 26, offset := 1, embedded := false, tag := "", pkgPath := "", byteOffset := 8 }, { name := "Level", type := 3, offset := 2, embedded := false, tag := "", pkgPath := "", byteOffset := 16 }, { name := "Ts", type := 26, offset := 3, embedded := false, tag := "", pkgPath := "", byteOffset := 24 }, { name := "Span", type := 46, offset := 4, embedded := false, tag := "", pkgPath := "", byteOffset := 32 }, { name := "Seen", type := 30, offset := 6, embedded := false, tag := "", pkgPath := "", byteOffset := 80 }, { name := "Keys", type := 29, offset := 7, embedded := false, tag := "", pkgPath := "", byteOffset := 104 }] #[(0, 1), (1, 1), (2, 1), (3, 1), (4, 2), (6, 1), (7, 1)] := fun w => by kernel_rfl
theorem ti49 : TI Try.prog 49 4 64 (Go.Value.agg #[(Go.Value.slice none 0 0), (Go.Value.int Go.IntKind.u64 0), (Go.Value.int Go.IntKind.u64 0), (Go.Value.slice none 0 0)]) (Go.TypeDesc.struct #[{ name := "Key", type := 38, offset := 0, embedded := false, tag := "", pkgPath := "", byteOffset := 0 }, { name := "Ts", type := 26, offset := 1, embedded := false, tag := "", pkgPath := "", byteOffset := 24 }, { name := "Txn", type := 26, offset := 2, embedded := false, tag := "", pkgPath := "", byteOffset := 32 }, { name := "Keys", type := 29, offset := 3, embedded := false, tag := "", pkgPath := "", byteOffset := 40 }]) := ⟨Try.underlying49, Try.t49, by kernel_rfl, rfl, rfl, rfl⟩
theorem pl49 : Places Try.prog #[{ name := "Key", type := 38, offset := 0, embedded := false, tag := "", pkgPath := "", byteOffset := 0 }, { name := "Ts", type := 26, offset := 1, embedded := false, tag := "", pkgPath := "", byteOffset := 24 }, { name := "Txn", type := 26, offset := 2, embedded := false, tag := "", pkgPath := "", byteOffset := 32 }, { name := "Keys", type := 29, offset := 3, embedded := false, tag := "", pkgPath := "", byteOffset := 40 }] #[(0, 1), (1, 1), (2, 1), (3, 1)] := fun w => by kernel_rfl
theorem ti50 : TI Try.prog 50 4 64 (Go.Value.agg #[(Go.Value.slice none 0 0), (Go.Value.int Go.IntKind.u64 0), (Go.Value.int Go.IntKind.u64 0), (Go.Value.slice none 0 0)]) (Go.TypeDesc.struct #[{ name := "Key", type := 38, offset := 0, embedded := false, tag := "", pkgPath := "", byteOffset := 0 }, { name := "Ts", type := 26, offset := 1, embedded := false, tag := "", pkgPath := "", byteOffset := 24 }, { name := "Txn", type := 26, offset := 2, embedded := false, tag := "", pkgPath := "", byteOffset := 32 }, { name := "Keys", type := 29, offset := 3, embedded := false, tag := "", pkgPath := "", byteOffset := 40 }]) := ⟨Try.underlying50, Try.t50, by kernel_rfl, rfl, rfl, rfl⟩
theorem pl50 : Places Try.prog #[{ name := "Key", type := 38, offset := 0, embedded := false, tag := "", pkgPath := "", byteOffset := 0 }, { name := "Ts", type := 26, offset := 1, embedded := false, tag := "", pkgPath := "", byteOffset := 24 }, { name := "Txn", type := 26, offset := 2, embedded := false, tag := "", pkgPath := "", byteOffset := 32 }, { name := "Keys", type := 29, offset := 3, embedded := false, tag := "", pkgPath := "", byteOffset := 40 }] #[(0, 1), (1, 1), (2, 1), (3, 1)] := fun w => by kernel_rfl
theorem ti51 : TI Try.prog 51 1 8 (Go.Value.map none) (Go.TypeDesc.map 26 53) := ⟨Try.underlying51, Try.t51, by kernel_rfl, rfl, rfl, rfl⟩
theorem ti52 : TI Try.prog 52 1 8 (Go.Value.map none) (Go.TypeDesc.map 26 4) := ⟨Try.underlying52, Try.t52, by kernel_rfl, rfl, rfl, rfl⟩
theorem ti53 : TI Try.prog 53 1 8 (Go.Value.pointer none) (Go.TypeDesc.pointer 55) := ⟨Try.underlying53, Try.t53, by kernel_rfl, rfl, rfl, rfl⟩
theorem ti54 : TI Try.prog 54 3 24 (Go.Value.agg #[(Go.Value.int Go.IntKind.i64 0), (Go.Value.int Go.IntKind.u64 0), (Go.Value.bool false)]) (Go.TypeDesc.struct #[{ name := "level", type := 3, offset := 0, embedded := false, tag := "", pkgPath := "plenum/hist", byteOffset := 0 }, { name := "start", type := 26, offset := 1, embedded := false, tag := "", pkgPath := "plenum/hist", byteOffset := 8 }, { name := "over", type := 4, offset := 2, embedded := false, tag := "", pkgPath := "plenum/hist", byteOffset := 16 }]) := ⟨Try.underlying54, Try.t54, by kernel_rfl, rfl, rfl, rfl⟩
theorem pl54 : Places Try.prog #[{ name := "level", type := 3, offset := 0, embedded := false, tag := "", pkgPath := "plenum/hist", byteOffset := 0 }, { name := "start", type := 26, offset := 1, embedded := false, tag := "", pkgPath := "plenum/hist", byteOffset := 8 }, { name := "over", type := 4, offset := 2, embedded := false, tag := "", pkgPath := "plenum/hist", byteOffset := 16 }] #[(0, 1), (1, 1), (2, 1)] := fun w => by kernel_rfl
theorem ti55 : TI Try.prog 55 3 24 (Go.Value.agg #[(Go.Value.int Go.IntKind.i64 0), (Go.Value.int Go.IntKind.u64 0), (Go.Value.bool false)]) (Go.TypeDesc.struct #[{ name := "level", type := 3, offset := 0, embedded := false, tag := "", pkgPath := "plenum/hist", byteOffset := 0 }, { name := "start", type := 26, offset := 1, embedded := false, tag := "", pkgPath := "plenum/hist", byteOffset := 8 }, { name := "over", type := 4, offset := 2, embedded := false, tag := "", pkgPath := "plenum/hist", byteOffset := 16 }]) := ⟨Try.underlying55, Try.t55, by kernel_rfl, rfl, rfl, rfl⟩
theorem pl55 : Places Try.prog #[{ name := "level", type := 3, offset := 0, embedded := false, tag := "", pkgPath := "plenum/hist", byteOffset := 0 }, { name := "start", type := 26, offset := 1, embedded := false, tag := "", pkgPath := "plenum/hist", byteOffset := 8 }, { name := "over", type := 4, offset := 2, embedded := false, tag := "", pkgPath := "plenum/hist", byteOffset := 16 }] #[(0, 1), (1, 1), (2, 1)] := fun w => by kernel_rfl
theorem ti56 : TI Try.prog 56 1 8 (Go.Value.map none) (Go.TypeDesc.map 26 3) := ⟨Try.underlying56, Try.t56, by kernel_rfl, rfl, rfl, rfl⟩
theorem ti57 : TI Try.prog 57 1 0 (Go.Value.tuple #[(Go.Value.int Go.IntKind.i64 0), (Go.Value.bool false)]) (Go.TypeDesc.tuple #[3, 4]) := ⟨Try.underlying57, Try.t57, by kernel_rfl, rfl, rfl, rfl⟩
theorem ti58 : TI Try.prog 58 1 8 (Go.Value.pointer none) (Go.TypeDesc.pointer 33) := ⟨Try.underlying58, Try.t58, by kernel_rfl, rfl, rfl, rfl⟩
theorem ti59 : TI Try.prog 59 1 8 Go.Value.nilFunc (Go.TypeDesc.func #[58, 48] #[] false) := ⟨Try.underlying59, Try.t59, by kernel_rfl, rfl, rfl, rfl⟩
theorem ti60 : TI Try.prog 60 1 8 Go.Value.nilFunc (Go.TypeDesc.func #[27, 61] #[3] false) := ⟨Try.underlying60, Try.t60, by kernel_rfl, rfl, rfl, rfl⟩
theorem ti61 : TI Try.prog 61 1 8 Go.Value.nilFunc (Go.TypeDesc.func #[33] #[4] false) := ⟨Try.underlying61, Try.t61, by kernel_rfl, rfl, rfl, rfl⟩
theorem ti62 : TI Try.prog 62 1 8 Go.Value.nilFunc (Go.TypeDesc.func #[30, 30] #[4] false) := ⟨Try.underlying62, Try.t62, by kernel_rfl, rfl, rfl, rfl⟩
theorem ti63 : TI Try.prog 63 1 8 Go.Value.nilFunc (Go.TypeDesc.func #[29, 65] #[4] false) := ⟨Try.underlying63, Try.t63, by kernel_rfl, rfl, rfl, rfl⟩
theorem ti64 : TI Try.prog 64 1 8 Go.Value.nilFunc (Go.TypeDesc.func #[38, 38] #[4] false) := ⟨Try.underlying64, Try.t64, by kernel_rfl, rfl, rfl, rfl⟩
theorem ti65 : TI Try.prog 65 1 8 Go.Value.nilFunc (Go.TypeDesc.func #[38] #[4] false) := ⟨Try.underlying65, Try.t65, by kernel_rfl, rfl, rfl, rfl⟩
theorem ti66 : TI Try.prog 66 1 8 Go.Value.nilFunc (Go.TypeDesc.func #[27, 69] #[] false) := ⟨Try.underlying66, Try.t66, by kernel_rfl, rfl, rfl, rfl⟩
theorem ti67 : TI Try.prog 67 1 8 Go.Value.nilFunc (Go.TypeDesc.func #[80] #[3] true) := ⟨Try.underlying67, Try.t67, by kernel_rfl, rfl, rfl, rfl⟩
theorem ti68 : TI Try.prog 68 1 8 Go.Value.nilFunc (Go.TypeDesc.func #[26, 26] #[3] false) := ⟨Try.underlying68, Try.t68, by kernel_rfl, rfl, rfl, rfl⟩
theorem ti69 : TI Try.prog 69 1 8 Go.Value.nilFunc (Go.TypeDesc.func #[33, 33] #[3] false) := ⟨Try.underlying69, Try.t69, by kernel_rfl, rfl, rfl, rfl⟩
theorem ti70 : TI Try.prog 70 1 8 (Go.Value.map none) (Go.TypeDesc.map 9 4) := ⟨Try.underlying70, Try.t70, by kernel_rfl, rfl, rfl, rfl⟩
theorem ti71 : TI Try.prog 71 1 24 (Go.Value.slice none 0 0) (Go.TypeDesc.slice 9) := ⟨Try.underlying71, Try.t71, by kernel_rfl, rfl, rfl, rfl⟩
theorem ti72 : TI Try.prog 72 1 8 Go.Value.nilFunc (Go.TypeDesc.func #[74] #[71] false) := ⟨Try.underlying72, Try.t72, by kernel_rfl, rfl, rfl, rfl⟩
theorem ti73 : TI Try.prog 73 1 8 Go.Value.nilFunc (Go.TypeDesc.func #[83] #[] false) := ⟨Try.underlying73, Try.t73, by kernel_rfl, rfl, rfl, rfl⟩
theorem ti74 : TI Try.prog 74 1 8 Go.Value.nilFunc (Go.TypeDesc.func #[83] #[] false) := ⟨Try.underlying74, Try.t74, by kernel_rfl, rfl, rfl, rfl⟩
theorem ti75 : TI Try.prog 75 1 8 Go.Value.nilFunc (Go.TypeDesc.func #[70] #[74] false) := ⟨Try.underlying75, Try.t75, by kernel_rfl, rfl, rfl, rfl⟩
theorem ti76 : TI Try.prog 76 1 8 Go.Value.nilFunc (Go.TypeDesc.func #[29, 38] #[4] false) := ⟨Try.underlying76, Try.t76, by kernel_rfl, rfl, rfl, rfl⟩
theorem ti77 : TI Try.prog 77 1 8 Go.Value.nilFunc (Go.TypeDesc.func #[27, 38] #[27] false) := ⟨Try.underlying77, Try.t77, by kernel_rfl, rfl, rfl, rfl⟩
theorem ti78 : TI Try.prog 78 1 8 Go.Value.nilFunc (Go.TypeDesc.func #[29, 65] #[3] false) := ⟨Try.underlying78, Try.t78, by kernel_rfl, rfl, rfl, rfl⟩
theorem ti79 : TI Try.prog 79 1 8 Go.Value.nilFunc (Go.TypeDesc.func #[27, 3, 69] #[] false) := ⟨Try.underlying79, Try.t79, by kernel_rfl, rfl, rfl, rfl⟩
theorem ti80 : TI Try.prog 80 1 24 (Go.Value.slice none 0 0) (Go.TypeDesc.slice 3) := ⟨Try.underlying80, Try.t80, by kernel_rfl, rfl, rfl, rfl⟩
theorem ti81 : TI Try.prog 81 1 8 Go.Value.nilFunc (Go.TypeDesc.func #[26] #[4] false) := ⟨Try.underlying81, Try.t81, by kernel_rfl, rfl, rfl, rfl⟩
theorem ti82 : TI Try.prog 82 1 8 Go.Value.nilFunc (Go.TypeDesc.func #[71] #[] false) := ⟨Try.underlying82, Try.t82, by kernel_rfl, rfl, rfl, rfl⟩
theorem ti83 : TI Try.prog 83 1 8 Go.Value.nilFunc (Go.TypeDesc.func #[9] #[4] false) := ⟨Try.underlying83, Try.t83, by kernel_rfl, rfl, rfl, rfl⟩
theorem ti84 : TI Try.prog 84 1 8 Go.Value.nilFunc (Go.TypeDesc.func #[27, 3, 3, 69] #[] false) := ⟨Try.underlying84, Try.t84, by kernel_rfl, rfl, rfl, rfl⟩
theorem ti85 : TI Try.prog 85 1 8 Go.Value.nilFunc (Go.TypeDesc.func #[27, 3, 3, 3, 69] #[] false) := ⟨Try.underlying85, Try.t85, by kernel_rfl, rfl, rfl, rfl⟩
theorem ti86 : TI Try.prog 86 1 8 Go.Value.nilFunc (Go.TypeDesc.func #[71, 74] #[71] false) := ⟨Try.underlying86, Try.t86, by kernel_rfl, rfl, rfl, rfl⟩
theorem ti87 : TI Try.prog 87 1 8 Go.Value.nilFunc (Go.TypeDesc.func #[71, 3, 3, 3] #[] false) := ⟨Try.underlying87, Try.t87, by kernel_rfl, rfl, rfl, rfl⟩
theorem ti88 : TI Try.prog 88 1 8 Go.Value.nilFunc (Go.TypeDesc.func #[89] #[3] false) := ⟨Try.underlying88, Try.t88, by kernel_rfl, rfl, rfl, rfl⟩
theorem ti89 : TI Try.prog 89 1 8 (Go.Value.int Go.IntKind.u64 0) (Go.TypeDesc.int Go.IntKind.u64) := ⟨Try.underlying89, Try.t89, by kernel_rfl, rfl, rfl, rfl⟩
theorem ti90 : TI Try.prog 90 1 8 Go.Value.nilFunc (Go.TypeDesc.func #[71, 3, 3] #[] false) := ⟨Try.underlying90, Try.t90, by kernel_rfl, rfl, rfl, rfl⟩
theorem ti91 : TI Try.prog 91 1 8 (Go.Value.int Go.IntKind.i64 0) (Go.TypeDesc.int Go.IntKind.i64) := ⟨Try.underlying91, Try.t91, by kernel_rfl, rfl, rfl, rfl⟩
theorem ti92 : TI Try.prog 92 1 0 (Go.Value.tuple #[(Go.Value.int Go.IntKind.i64 0), (Go.Value.int Go.IntKind.i64 0)]) (Go.TypeDesc.tuple #[3, 91]) := ⟨Try.underlying92, Try.t92, by kernel_rfl, rfl, rfl, rfl⟩
theorem ti93 : TI Try.prog 93 1 8 Go.Value.nilFunc (Go.TypeDesc.func #[71, 3, 3] #[3, 91] false) := ⟨Try.underlying93, Try.t93, by kernel_rfl, rfl, rfl, rfl⟩
theorem ti94 : TI Try.prog 94 1 8 Go.Value.nilFunc (Go.TypeDesc.func #[71, 3, 3] #[4] false) := ⟨Try.underlying94, Try.t94, by kernel_rfl, rfl, rfl, rfl⟩
theorem ti95 : TI Try.prog 95 1 8 Go.Value.nilFunc (Go.TypeDesc.func #[9, 9] #[4] false) := ⟨Try.underlying95, Try.t95, by kernel_rfl, rfl, rfl, rfl⟩
theorem ti96 : TI Try.prog 96 1 8 Go.Value.nilFunc (Go.TypeDesc.func #[71, 3, 3, 3] #[3] false) := ⟨Try.underlying96, Try.t96, by kernel_rfl, rfl, rfl, rfl⟩
theorem ti97 : TI Try.prog 97 1 8 Go.Value.nilFunc (Go.TypeDesc.func #[71, 3, 3, 3] #[3, 4] false) := ⟨Try.underlying97, Try.t97, by kernel_rfl, rfl, rfl, rfl⟩
theorem ti98 : TI Try.prog 98 1 8 Go.Value.nilFunc (Go.TypeDesc.func #[99] #[3] false) := ⟨Try.underlying98, Try.t98, by kernel_rfl, rfl, rfl, rfl⟩
theorem ti99 : TI Try.prog 99 1 4 (Go.Value.int Go.IntKind.u32 0) (Go.TypeDesc.int Go.IntKind.u32) := ⟨Try.underlying99, Try.t99, by kernel_rfl, rfl, rfl, rfl⟩
theorem ti100 : TI Try.prog 100 1 8 Go.Value.nilFunc (Go.TypeDesc.func #[26] #[3] false) := ⟨Try.underlying100, Try.t100, by kernel_rfl, rfl, rfl, rfl⟩
theorem ti101 : TI Try.prog 101 1 8 (Go.Value.int Go.IntKind.u64 0) (Go.TypeDesc.int Go.IntKind.u64) := ⟨Try.underlying101, Try.t101, by kernel_rfl, rfl, rfl, rfl⟩
theorem ti102 : TI Try.prog 102 1 8 Go.Value.nilFunc (Go.TypeDesc.func #[3] #[89] false) := ⟨Try.underlying102, Try.t102, by kernel_rfl, rfl, rfl, rfl⟩
theorem ti103 : TI Try.prog 103 1 8 Go.Value.nilFunc (Go.TypeDesc.func #[] #[26] false) := ⟨Try.underlying103, Try.t103, by kernel_rfl, rfl, rfl, rfl⟩
theorem ti104 : TI Try.prog 104 1 8 Go.Value.nilFunc (Go.TypeDesc.func #[71, 3, 105] #[3] false) := ⟨Try.underlying104, Try.t104, by kernel_rfl, rfl, rfl, rfl⟩
theorem ti105 : TI Try.prog 105 1 8 (Go.Value.pointer none) (Go.TypeDesc.pointer 3) := ⟨Try.underlying105, Try.t105, by kernel_rfl, rfl, rfl, rfl⟩
theorem ti106 : TI Try.prog 106 1 8 Go.Value.nilFunc (Go.TypeDesc.func #[71, 3, 3, 3, 105] #[3] false) := ⟨Try.underlying106, Try.t106, by kernel_rfl, rfl, rfl, rfl⟩
theorem ti107 : TI Try.prog 107 1 8 (Go.Value.pointer none) (Go.TypeDesc.pointer 101) := ⟨Try.underlying107, Try.t107, by kernel_rfl, rfl, rfl, rfl⟩
theorem ti108 : TI Try.prog 108 1 0 (Go.Value.tuple #[(Go.Value.int Go.IntKind.i64 0), (Go.Value.int Go.IntKind.i64 0)]) (Go.TypeDesc.tuple #[3, 3]) := ⟨Try.underlying108, Try.t108, by kernel_rfl, rfl, rfl, rfl⟩
theorem ti109 : TI Try.prog 109 1 8 Go.Value.nilFunc (Go.TypeDesc.func #[71, 3, 3, 105] #[3, 3] false) := ⟨Try.underlying109, Try.t109, by kernel_rfl, rfl, rfl, rfl⟩
theorem en3 : En Try.prog 3 := En.of Try.func3 (by kernel_rfl) rfl
theorem en4 : En Try.prog 4 := En.of Try.func4 (by kernel_rfl) rfl
theorem en5 : En Try.prog 5 := En.of Try.func5 (by kernel_rfl) rfl
theorem en6 : En Try.prog 6 := En.of Try.func6 (by kernel_rfl) rfl
theorem en7 : En Try.prog 7 := En.of Try.func7 (by kernel_rfl) rfl
theorem en8 : En Try.prog 8 := En.of Try.func8 (by kernel_rfl) rfl
theorem en9 : En Try.prog 9 := En.of Try.func9 (by kernel_rfl) rfl
theorem en10 : En Try.prog 10 := En.of Try.func10 (by kernel_rfl) rfl
theorem en11 : En Try.prog 11 := En.of Try.func11 (by kernel_rfl) rfl
theorem en12 : En Try.prog 12 := En.of Try.func12 (by kernel_rfl) rfl
theorem en13 : En Try.prog 13 := En.of Try.func13 (by kernel_rfl) rfl
theorem en14 : En Try.prog 14 := En.of Try.func14 (by kernel_rfl) rfl
theorem en15 : En Try.prog 15 := En.of Try.func15 (by kernel_rfl) rfl
theorem en16 : En Try.prog 16 := En.of Try.func16 (by kernel_rfl) rfl
theorem en17 : En Try.prog 17 := En.of Try.func17 (by kernel_rfl) rfl
theorem en18 : En Try.prog 18 := En.of Try.func18 (by kernel_rfl) rfl
theorem en19 : En Try.prog 19 := En.of Try.func19 (by kernel_rfl) rfl
theorem en20 : En Try.prog 20 := En.of Try.func20 (by kernel_rfl) rfl
theorem en21 : En Try.prog 21 := En.of Try.func21 (by kernel_rfl) rfl
theorem en22 : En Try.prog 22 := En.of Try.func22 (by kernel_rfl) rfl
theorem en23 : En Try.prog 23 := En.of Try.func23 (by kernel_rfl) rfl
theorem en24 : En Try.prog 24 := En.of Try.func24 (by kernel_rfl) rfl
theorem en25 : En Try.prog 25 := En.of Try.func25 (by kernel_rfl) rfl
theorem en26 : En Try.prog 26 := En.of Try.func26 (by kernel_rfl) rfl
theorem en27 : En Try.prog 27 := En.of Try.func27 (by kernel_rfl) rfl
theorem en28 : En Try.prog 28 := En.of Try.func28 (by kernel_rfl) rfl
theorem en29 : En Try.prog 29 := En.of Try.func29 (by kernel_rfl) rfl
theorem en30 : En Try.prog 30 := En.of Try.func30 (by kernel_rfl) rfl
theorem en31 : En Try.prog 31 := En.of Try.func31 (by kernel_rfl) rfl
theorem en32 : En Try.prog 32 := En.of Try.func32 (by kernel_rfl) rfl
theorem en33 : En Try.prog 33 := En.of Try.func33 (by kernel_rfl) rfl
theorem en34 : En Try.prog 34 := En.of Try.func34 (by kernel_rfl) rfl
theorem en35 : En Try.prog 35 := En.of Try.func35 (by kernel_rfl) rfl
theorem en36 : En Try.prog 36 := En.of Try.func36 (by kernel_rfl) rfl
theorem en37 : En Try.prog 37 := En.of Try.func37 (by kernel_rfl) rfl
theorem en38 : En Try.prog 38 := En.of Try.func38 (by kernel_rfl) rfl
theorem en39 : En Try.prog 39 := En.of Try.func39 (by kernel_rfl) rfl
theorem en40 : En Try.prog 40 := En.of Try.func40 (by kernel_rfl) rfl
theorem en41 : En Try.prog 41 := En.of Try.func41 (by kernel_rfl) rfl
theorem en42 : En Try.prog 42 := En.of Try.func42 (by kernel_rfl) rfl
theorem en43 : En Try.prog 43 := En.of Try.func43 (by kernel_rfl) rfl
theorem en44 : En Try.prog 44 := En.of Try.func44 (by kernel_rfl) rfl
theorem en45 : En Try.prog 45 := En.of Try.func45 (by kernel_rfl) rfl
theorem en46 : En Try.prog 46 := En.of Try.func46 (by kernel_rfl) rfl
theorem en47 : En Try.prog 47 := En.of Try.func47 (by kernel_rfl) rfl
theorem en48 : En Try.prog 48 := En.of Try.func48 (by kernel_rfl) rfl
theorem en49 : En Try.prog 49 := En.of Try.func49 (by kernel_rfl) rfl
theorem en50 : En Try.prog 50 := En.of Try.func50 (by kernel_rfl) rfl
theorem en51 : En Try.prog 51 := En.of Try.func51 (by kernel_rfl) rfl
theorem en52 : En Try.prog 52 := En.of Try.func52 (by kernel_rfl) rfl
theorem en53 : En Try.prog 53 := En.of Try.func53 (by kernel_rfl) rfl
theorem en54 : En Try.prog 54 := En.of Try.func54 (by kernel_rfl) rfl
theorem en55 : En Try.prog 55 := En.of Try.func55 (by kernel_rfl) rfl
theorem en56 : En Try.prog 56 := En.of Try.func56 (by kernel_rfl) rfl
theorem en57 : En Try.prog 57 := En.of Try.func57 (by kernel_rfl) rfl
theorem en58 : En Try.prog 58 := En.of Try.func58 (by kernel_rfl) rfl
theorem en59 : En Try.prog 59 := En.of Try.func59 (by kernel_rfl) rfl
theorem en60 : En Try.prog 60 := En.of Try.func60 (by kernel_rfl) rfl
theorem en61 : En Try.prog 61 := En.of Try.func61 (by kernel_rfl) rfl
theorem en62 : En Try.prog 62 := En.of Try.func62 (by kernel_rfl) rfl
theorem en63 : En Try.prog 63 := En.of Try.func63 (by kernel_rfl) rfl
theorem en64 : En Try.prog 64 := En.of Try.func64 (by kernel_rfl) rfl
theorem en65 : En Try.prog 65 := En.of Try.func65 (by kernel_rfl) rfl
theorem en66 : En Try.prog 66 := En.of Try.func66 (by kernel_rfl) rfl
theorem en67 : En Try.prog 67 := En.of Try.func67 (by kernel_rfl) rfl
theorem mixed : Try.prog.follows .mixedOrders = true := by kernel_rfl
end Go.Proofs.Ytelgegodeifbiaa
