import Derived.Test.YtafpjnkfbfkjcaaGreatDoorProg
import Derived.Test.YtafpjnkfbfkjcaaGreatDoorAx1
import Derived.KernelRfl
set_option linter.unusedVariables false
set_option maxRecDepth 100000
namespace Go.Proofs.YtafpjnkfbfkjcaaGreatDoor
open Go Go.AX
instance ty0 : Ty Tryz.prog 0 (TypeDesc.tuple #[]) 1 0 (Value.tuple #[]) := ⟨Tryz.underlying0, Tryz.t0, rfl, rfl, rfl, rfl⟩
instance ty1 : Ty Tryz.prog 1 (TypeDesc.func #[] #[] false) 1 8 Value.nilFunc := ⟨Tryz.underlying1, Tryz.t1, rfl, rfl, rfl, rfl⟩
instance ty2 : Ty Tryz.prog 2 (TypeDesc.int IntKind.i64) 1 8 (Value.int IntKind.i64 0) := ⟨Tryz.underlying2, Tryz.t2, rfl, rfl, rfl, rfl⟩
instance ty3 : Ty Tryz.prog 3 (TypeDesc.int IntKind.i64) 1 8 (Value.int IntKind.i64 0) := ⟨Tryz.underlying3, Tryz.t3, rfl, rfl, rfl, rfl⟩
instance ty4 : Ty Tryz.prog 4 TypeDesc.bool 1 1 (Value.bool false) := ⟨Tryz.underlying4, Tryz.t4, rfl, rfl, rfl, rfl⟩
instance ty5 : Ty Tryz.prog 5 (TypeDesc.int IntKind.u8) 1 1 (Value.int IntKind.u8 0) := ⟨Tryz.underlying5, Tryz.t5, rfl, rfl, rfl, rfl⟩
instance ty6 : Ty Tryz.prog 6 (TypeDesc.int IntKind.u8) 1 1 (Value.int IntKind.u8 0) := ⟨Tryz.underlying6, Tryz.t6, rfl, rfl, rfl, rfl⟩
instance ty7 : Ty Tryz.prog 7 (TypeDesc.struct
      #[{ name := "x", type := 2, offset := 0, embedded := false, tag := "", pkgPath := "runtime", byteOffset := 0 },
        { name := "y", type := 3, offset := 1, embedded := false, tag := "", pkgPath := "runtime", byteOffset := 8 },
        { name := "signed", type := 4, offset := 2, embedded := false, tag := "", pkgPath := "runtime",
          byteOffset := 16 },
        { name := "code", type := 6, offset := 3, embedded := false, tag := "", pkgPath := "runtime",
          byteOffset := 17 }]) 4 24 (Value.agg #[Value.int IntKind.i64 0, Value.int IntKind.i64 0, Value.bool false, Value.int IntKind.u8 0]) := ⟨Tryz.underlying7, Tryz.t7, rfl, rfl, rfl, rfl⟩
instance ty8 : Ty Tryz.prog 8 (TypeDesc.struct
      #[{ name := "x", type := 2, offset := 0, embedded := false, tag := "", pkgPath := "runtime", byteOffset := 0 },
        { name := "y", type := 3, offset := 1, embedded := false, tag := "", pkgPath := "runtime", byteOffset := 8 },
        { name := "signed", type := 4, offset := 2, embedded := false, tag := "", pkgPath := "runtime",
          byteOffset := 16 },
        { name := "code", type := 6, offset := 3, embedded := false, tag := "", pkgPath := "runtime",
          byteOffset := 17 }]) 4 24 (Value.agg #[Value.int IntKind.i64 0, Value.int IntKind.i64 0, Value.bool false, Value.int IntKind.u8 0]) := ⟨Tryz.underlying8, Tryz.t8, rfl, rfl, rfl, rfl⟩
instance ty9 : Ty Tryz.prog 9 TypeDesc.string 1 16 (Value.string { data := #[] }) := ⟨Tryz.underlying9, Tryz.t9, rfl, rfl, rfl, rfl⟩
instance ty10 : Ty Tryz.prog 10 TypeDesc.string 1 16 (Value.string { data := #[] }) := ⟨Tryz.underlying10, Tryz.t10, rfl, rfl, rfl, rfl⟩
instance ty11 : Ty Tryz.prog 11 TypeDesc.string 1 16 (Value.string { data := #[] }) := ⟨Tryz.underlying11, Tryz.t11, rfl, rfl, rfl, rfl⟩
instance ty12 : Ty Tryz.prog 12 (TypeDesc.int IntKind.u64) 1 8 (Value.int IntKind.u64 0) := ⟨Tryz.underlying12, Tryz.t12, rfl, rfl, rfl, rfl⟩
instance ty13 : Ty Tryz.prog 13 (TypeDesc.struct
      #[{ name := "msg", type := 9, offset := 0, embedded := false, tag := "", pkgPath := "runtime", byteOffset := 0 },
        { name := "addr", type := 12, offset := 1, embedded := false, tag := "", pkgPath := "runtime",
          byteOffset := 16 }]) 2 24 (Value.agg #[Value.string { data := #[] }, Value.int IntKind.u64 0]) := ⟨Tryz.underlying13, Tryz.t13, rfl, rfl, rfl, rfl⟩
instance ty14 : Ty Tryz.prog 14 (TypeDesc.struct
      #[{ name := "msg", type := 9, offset := 0, embedded := false, tag := "", pkgPath := "runtime", byteOffset := 0 },
        { name := "addr", type := 12, offset := 1, embedded := false, tag := "", pkgPath := "runtime",
          byteOffset := 16 }]) 2 24 (Value.agg #[Value.string { data := #[] }, Value.int IntKind.u64 0]) := ⟨Tryz.underlying14, Tryz.t14, rfl, rfl, rfl, rfl⟩
instance ty15 : Ty Tryz.prog 15 (TypeDesc.pointer 295) 1 8 (Value.pointer none) := ⟨Tryz.underlying15, Tryz.t15, rfl, rfl, rfl, rfl⟩
instance ty16 : Ty Tryz.prog 16 (TypeDesc.pointer 298) 1 8 (Value.pointer none) := ⟨Tryz.underlying16, Tryz.t16, rfl, rfl, rfl, rfl⟩
instance ty17 : Ty Tryz.prog 17 (TypeDesc.pointer 305) 1 8 (Value.pointer none) := ⟨Tryz.underlying17, Tryz.t17, rfl, rfl, rfl, rfl⟩
instance ty18 : Ty Tryz.prog 18 (TypeDesc.struct
      #[{ name := "typ", type := 17, offset := 0, embedded := false, tag := "", pkgPath := "internal/runtime/maps",
          byteOffset := 0 }]) 1 8 (Value.agg #[Value.pointer none]) := ⟨Tryz.underlying18, Tryz.t18, rfl, rfl, rfl, rfl⟩
instance ty19 : Ty Tryz.prog 19 (TypeDesc.struct
      #[{ name := "typ", type := 17, offset := 0, embedded := false, tag := "", pkgPath := "internal/runtime/maps",
          byteOffset := 0 }]) 1 8 (Value.agg #[Value.pointer none]) := ⟨Tryz.underlying19, Tryz.t19, rfl, rfl, rfl, rfl⟩
instance ty20 : Ty Tryz.prog 20 (TypeDesc.interface #[]) 1 16 Value.nilIface := ⟨Tryz.underlying20, Tryz.t20, rfl, rfl, rfl, rfl⟩
instance ty21 : Ty Tryz.prog 21 (TypeDesc.int IntKind.i32) 1 4 (Value.int IntKind.i32 0) := ⟨Tryz.underlying21, Tryz.t21, rfl, rfl, rfl, rfl⟩
instance ty22 : Ty Tryz.prog 22 (TypeDesc.slice 62) 1 24 (Value.slice none 0 0) := ⟨Tryz.underlying22, Tryz.t22, rfl, rfl, rfl, rfl⟩
instance ty23 : Ty Tryz.prog 23 (TypeDesc.slice 70) 1 24 (Value.slice none 0 0) := ⟨Tryz.underlying23, Tryz.t23, rfl, rfl, rfl, rfl⟩
instance ty24 : Ty Tryz.prog 24 (TypeDesc.slice 51) 1 24 (Value.slice none 0 0) := ⟨Tryz.underlying24, Tryz.t24, rfl, rfl, rfl, rfl⟩
instance ty25 : Ty Tryz.prog 25 (TypeDesc.struct
      #[{ name := "Trees", type := 22, offset := 0, embedded := false, tag := "", pkgPath := "", byteOffset := 0 },
        { name := "Told", type := 23, offset := 1, embedded := false, tag := "", pkgPath := "", byteOffset := 24 },
        { name := "Acts", type := 24, offset := 2, embedded := false, tag := "", pkgPath := "", byteOffset := 48 }]) 3 72 (Value.agg #[Value.slice none 0 0, Value.slice none 0 0, Value.slice none 0 0]) := ⟨Tryz.underlying25, Tryz.t25, rfl, rfl, rfl, rfl⟩
instance ty26 : Ty Tryz.prog 26 (TypeDesc.struct
      #[{ name := "Trees", type := 22, offset := 0, embedded := false, tag := "", pkgPath := "", byteOffset := 0 },
        { name := "Told", type := 23, offset := 1, embedded := false, tag := "", pkgPath := "", byteOffset := 24 },
        { name := "Acts", type := 24, offset := 2, embedded := false, tag := "", pkgPath := "", byteOffset := 48 }]) 3 72 (Value.agg #[Value.slice none 0 0, Value.slice none 0 0, Value.slice none 0 0]) := ⟨Tryz.underlying26, Tryz.t26, rfl, rfl, rfl, rfl⟩
instance ty27 : Ty Tryz.prog 27 (TypeDesc.func #[26] #[4] false) 1 8 Value.nilFunc := ⟨Tryz.underlying27, Tryz.t27, rfl, rfl, rfl, rfl⟩
instance ty28 : Ty Tryz.prog 28 (TypeDesc.func #[] #[4] false) 1 8 Value.nilFunc := ⟨Tryz.underlying28, Tryz.t28, rfl, rfl, rfl, rfl⟩
instance ty29 : Ty Tryz.prog 29 (TypeDesc.pointer 91) 1 8 (Value.pointer none) := ⟨Tryz.underlying29, Tryz.t29, rfl, rfl, rfl, rfl⟩
instance ty30 : Ty Tryz.prog 30 (TypeDesc.pointer 112) 1 8 (Value.pointer none) := ⟨Tryz.underlying30, Tryz.t30, rfl, rfl, rfl, rfl⟩
instance ty31 : Ty Tryz.prog 31 (TypeDesc.tuple #[29, 30, 4]) 1 0 (Value.tuple #[Value.pointer none, Value.pointer none, Value.bool false]) := ⟨Tryz.underlying31, Tryz.t31, rfl, rfl, rfl, rfl⟩
instance ty32 : Ty Tryz.prog 32 (TypeDesc.func #[26, 24] #[29, 30, 4] false) 1 8 Value.nilFunc := ⟨Tryz.underlying32, Tryz.t32, rfl, rfl, rfl, rfl⟩
instance ty33 : Ty Tryz.prog 33 (TypeDesc.slice 38) 1 24 (Value.slice none 0 0) := ⟨Tryz.underlying33, Tryz.t33, rfl, rfl, rfl, rfl⟩
instance ty34 : Ty Tryz.prog 34 (TypeDesc.func #[3] #[33] false) 1 8 Value.nilFunc := ⟨Tryz.underlying34, Tryz.t34, rfl, rfl, rfl, rfl⟩
instance ty35 : Ty Tryz.prog 35 (TypeDesc.slice 43) 1 24 (Value.slice none 0 0) := ⟨Tryz.underlying35, Tryz.t35, rfl, rfl, rfl, rfl⟩
instance ty36 : Ty Tryz.prog 36 (TypeDesc.func #[] #[35] false) 1 8 Value.nilFunc := ⟨Tryz.underlying36, Tryz.t36, rfl, rfl, rfl, rfl⟩
instance ty37 : Ty Tryz.prog 37 (TypeDesc.struct
      #[{ name := "Packet", type := 3, offset := 0, embedded := false, tag := "", pkgPath := "", byteOffset := 0 },
        { name := "Grave", type := 3, offset := 1, embedded := false, tag := "", pkgPath := "", byteOffset := 8 },
        { name := "Group", type := 9, offset := 2, embedded := false, tag := "", pkgPath := "", byteOffset := 16 },
        { name := "Text", type := 9, offset := 3, embedded := false, tag := "", pkgPath := "", byteOffset := 32 },
        { name := "Proto", type := 9, offset := 4, embedded := false, tag := "", pkgPath := "", byteOffset := 48 },
        { name := "At", type := 3, offset := 5, embedded := false, tag := "", pkgPath := "", byteOffset := 64 },
        { name := "Times", type := 3, offset := 6, embedded := false, tag := "", pkgPath := "", byteOffset := 72 }]) 7 80 (Value.agg
        #[Value.int IntKind.i64 0, Value.int IntKind.i64 0, Value.string { data := #[] }, Value.string { data := #[] },
          Value.string { data := #[] }, Value.int IntKind.i64 0, Value.int IntKind.i64 0]) := ⟨Tryz.underlying37, Tryz.t37, rfl, rfl, rfl, rfl⟩
instance ty38 : Ty Tryz.prog 38 (TypeDesc.struct
      #[{ name := "Packet", type := 3, offset := 0, embedded := false, tag := "", pkgPath := "", byteOffset := 0 },
        { name := "Grave", type := 3, offset := 1, embedded := false, tag := "", pkgPath := "", byteOffset := 8 },
        { name := "Group", type := 9, offset := 2, embedded := false, tag := "", pkgPath := "", byteOffset := 16 },
        { name := "Text", type := 9, offset := 3, embedded := false, tag := "", pkgPath := "", byteOffset := 32 },
        { name := "Proto", type := 9, offset := 4, embedded := false, tag := "", pkgPath := "", byteOffset := 48 },
        { name := "At", type := 3, offset := 5, embedded := false, tag := "", pkgPath := "", byteOffset := 64 },
        { name := "Times", type := 3, offset := 6, embedded := false, tag := "", pkgPath := "", byteOffset := 72 }]) 7 80 (Value.agg
        #[Value.int IntKind.i64 0, Value.int IntKind.i64 0, Value.string { data := #[] }, Value.string { data := #[] },
          Value.string { data := #[] }, Value.int IntKind.i64 0, Value.int IntKind.i64 0]) := ⟨Tryz.underlying38, Tryz.t38, rfl, rfl, rfl, rfl⟩
instance ty39 : Ty Tryz.prog 39 (TypeDesc.int IntKind.i64) 1 8 (Value.int IntKind.i64 0) := ⟨Tryz.underlying39, Tryz.t39, rfl, rfl, rfl, rfl⟩
instance ty40 : Ty Tryz.prog 40 (TypeDesc.tuple #[3, 4, 39]) 1 0 (Value.tuple #[Value.int IntKind.i64 0, Value.bool false, Value.int IntKind.i64 0]) := ⟨Tryz.underlying40, Tryz.t40, rfl, rfl, rfl, rfl⟩
instance ty41 : Ty Tryz.prog 41 (TypeDesc.func #[3] #[3, 4, 39] false) 1 8 Value.nilFunc := ⟨Tryz.underlying41, Tryz.t41, rfl, rfl, rfl, rfl⟩
instance ty42 : Ty Tryz.prog 42 (TypeDesc.func #[9] #[3] false) 1 8 Value.nilFunc := ⟨Tryz.underlying42, Tryz.t42, rfl, rfl, rfl, rfl⟩
instance ty43 : Ty Tryz.prog 43 (TypeDesc.array 3 9) 3 48 (Value.agg #[Value.string { data := #[] }, Value.string { data := #[] }, Value.string { data := #[] }]) := ⟨Tryz.underlying43, Tryz.t43, rfl, rfl, rfl, rfl⟩
instance ty44 : Ty Tryz.prog 44 (TypeDesc.func #[9] #[33] false) 1 8 Value.nilFunc := ⟨Tryz.underlying44, Tryz.t44, rfl, rfl, rfl, rfl⟩
instance ty45 : Ty Tryz.prog 45 (TypeDesc.func #[29, 30] #[4] false) 1 8 Value.nilFunc := ⟨Tryz.underlying45, Tryz.t45, rfl, rfl, rfl, rfl⟩
instance ty46 : Ty Tryz.prog 46 (TypeDesc.func #[29] #[39] false) 1 8 Value.nilFunc := ⟨Tryz.underlying46, Tryz.t46, rfl, rfl, rfl, rfl⟩
instance ty47 : Ty Tryz.prog 47 (TypeDesc.func #[30] #[39] false) 1 8 Value.nilFunc := ⟨Tryz.underlying47, Tryz.t47, rfl, rfl, rfl, rfl⟩
instance ty48 : Ty Tryz.prog 48 (TypeDesc.func #[29, 30, 26, 51] #[4] false) 1 8 Value.nilFunc := ⟨Tryz.underlying48, Tryz.t48, rfl, rfl, rfl, rfl⟩
instance ty49 : Ty Tryz.prog 49 (TypeDesc.slice 5) 1 24 (Value.slice none 0 0) := ⟨Tryz.underlying49, Tryz.t49, rfl, rfl, rfl, rfl⟩
instance ty50 : Ty Tryz.prog 50 (TypeDesc.struct
      #[{ name := "Op", type := 3, offset := 0, embedded := false, tag := "", pkgPath := "", byteOffset := 0 },
        { name := "A", type := 3, offset := 1, embedded := false, tag := "", pkgPath := "", byteOffset := 8 },
        { name := "B", type := 3, offset := 2, embedded := false, tag := "", pkgPath := "", byteOffset := 16 },
        { name := "C", type := 3, offset := 3, embedded := false, tag := "", pkgPath := "", byteOffset := 24 },
        { name := "S", type := 9, offset := 4, embedded := false, tag := "", pkgPath := "", byteOffset := 32 },
        { name := "D", type := 49, offset := 5, embedded := false, tag := "", pkgPath := "", byteOffset := 48 }]) 6 72 (Value.agg
        #[Value.int IntKind.i64 0, Value.int IntKind.i64 0, Value.int IntKind.i64 0, Value.int IntKind.i64 0,
          Value.string { data := #[] }, Value.slice none 0 0]) := ⟨Tryz.underlying50, Tryz.t50, rfl, rfl, rfl, rfl⟩
instance ty51 : Ty Tryz.prog 51 (TypeDesc.struct
      #[{ name := "Op", type := 3, offset := 0, embedded := false, tag := "", pkgPath := "", byteOffset := 0 },
        { name := "A", type := 3, offset := 1, embedded := false, tag := "", pkgPath := "", byteOffset := 8 },
        { name := "B", type := 3, offset := 2, embedded := false, tag := "", pkgPath := "", byteOffset := 16 },
        { name := "C", type := 3, offset := 3, embedded := false, tag := "", pkgPath := "", byteOffset := 24 },
        { name := "S", type := 9, offset := 4, embedded := false, tag := "", pkgPath := "", byteOffset := 32 },
        { name := "D", type := 49, offset := 5, embedded := false, tag := "", pkgPath := "", byteOffset := 48 }]) 6 72 (Value.agg
        #[Value.int IntKind.i64 0, Value.int IntKind.i64 0, Value.int IntKind.i64 0, Value.int IntKind.i64 0,
          Value.string { data := #[] }, Value.slice none 0 0]) := ⟨Tryz.underlying51, Tryz.t51, rfl, rfl, rfl, rfl⟩
instance ty52 : Ty Tryz.prog 52 (TypeDesc.func #[29, 29] #[4] false) 1 8 Value.nilFunc := ⟨Tryz.underlying52, Tryz.t52, rfl, rfl, rfl, rfl⟩
instance ty53 : Ty Tryz.prog 53 (TypeDesc.func #[30, 30] #[4] false) 1 8 Value.nilFunc := ⟨Tryz.underlying53, Tryz.t53, rfl, rfl, rfl, rfl⟩
instance ty54 : Ty Tryz.prog 54 (TypeDesc.func #[26, 3] #[4] false) 1 8 Value.nilFunc := ⟨Tryz.underlying54, Tryz.t54, rfl, rfl, rfl, rfl⟩
instance ty55 : Ty Tryz.prog 55 (TypeDesc.func #[] #[29] false) 1 8 Value.nilFunc := ⟨Tryz.underlying55, Tryz.t55, rfl, rfl, rfl, rfl⟩
instance ty56 : Ty Tryz.prog 56 (TypeDesc.func #[] #[30] false) 1 8 Value.nilFunc := ⟨Tryz.underlying56, Tryz.t56, rfl, rfl, rfl, rfl⟩
instance ty57 : Ty Tryz.prog 57 (TypeDesc.tuple #[3, 39]) 1 0 (Value.tuple #[Value.int IntKind.i64 0, Value.int IntKind.i64 0]) := ⟨Tryz.underlying57, Tryz.t57, rfl, rfl, rfl, rfl⟩
instance ty58 : Ty Tryz.prog 58 (TypeDesc.func #[62] #[3, 39] false) 1 8 Value.nilFunc := ⟨Tryz.underlying58, Tryz.t58, rfl, rfl, rfl, rfl⟩
instance ty59 : Ty Tryz.prog 59 (TypeDesc.struct
      #[{ name := "Kind", type := 3, offset := 0, embedded := false, tag := "", pkgPath := "", byteOffset := 0 },
        { name := "N", type := 3, offset := 1, embedded := false, tag := "", pkgPath := "", byteOffset := 8 },
        { name := "B", type := 49, offset := 2, embedded := false, tag := "", pkgPath := "", byteOffset := 16 }]) 3 40 (Value.agg #[Value.int IntKind.i64 0, Value.int IntKind.i64 0, Value.slice none 0 0]) := ⟨Tryz.underlying59, Tryz.t59, rfl, rfl, rfl, rfl⟩
instance ty60 : Ty Tryz.prog 60 (TypeDesc.struct
      #[{ name := "Kind", type := 3, offset := 0, embedded := false, tag := "", pkgPath := "", byteOffset := 0 },
        { name := "N", type := 3, offset := 1, embedded := false, tag := "", pkgPath := "", byteOffset := 8 },
        { name := "B", type := 49, offset := 2, embedded := false, tag := "", pkgPath := "", byteOffset := 16 }]) 3 40 (Value.agg #[Value.int IntKind.i64 0, Value.int IntKind.i64 0, Value.slice none 0 0]) := ⟨Tryz.underlying60, Tryz.t60, rfl, rfl, rfl, rfl⟩
instance ty61 : Ty Tryz.prog 61 (TypeDesc.struct
      #[{ name := "Kind", type := 3, offset := 0, embedded := false, tag := "", pkgPath := "", byteOffset := 0 },
        { name := "Name", type := 9, offset := 1, embedded := false, tag := "", pkgPath := "", byteOffset := 8 },
        { name := "At", type := 3, offset := 2, embedded := false, tag := "", pkgPath := "", byteOffset := 24 },
        { name := "Size", type := 3, offset := 3, embedded := false, tag := "", pkgPath := "", byteOffset := 32 },
        { name := "V", type := 60, offset := 4, embedded := false, tag := "", pkgPath := "", byteOffset := 40 },
        { name := "L", type := 22, offset := 7, embedded := false, tag := "", pkgPath := "", byteOffset := 80 }]) 8 104 (Value.agg
        #[Value.int IntKind.i64 0, Value.string { data := #[] }, Value.int IntKind.i64 0, Value.int IntKind.i64 0,
          Value.int IntKind.i64 0, Value.int IntKind.i64 0, Value.slice none 0 0, Value.slice none 0 0]) := ⟨Tryz.underlying61, Tryz.t61, rfl, rfl, rfl, rfl⟩
instance ty62 : Ty Tryz.prog 62 (TypeDesc.struct
      #[{ name := "Kind", type := 3, offset := 0, embedded := false, tag := "", pkgPath := "", byteOffset := 0 },
        { name := "Name", type := 9, offset := 1, embedded := false, tag := "", pkgPath := "", byteOffset := 8 },
        { name := "At", type := 3, offset := 2, embedded := false, tag := "", pkgPath := "", byteOffset := 24 },
        { name := "Size", type := 3, offset := 3, embedded := false, tag := "", pkgPath := "", byteOffset := 32 },
        { name := "V", type := 60, offset := 4, embedded := false, tag := "", pkgPath := "", byteOffset := 40 },
        { name := "L", type := 22, offset := 7, embedded := false, tag := "", pkgPath := "", byteOffset := 80 }]) 8 104 (Value.agg
        #[Value.int IntKind.i64 0, Value.string { data := #[] }, Value.int IntKind.i64 0, Value.int IntKind.i64 0,
          Value.int IntKind.i64 0, Value.int IntKind.i64 0, Value.slice none 0 0, Value.slice none 0 0]) := ⟨Tryz.underlying62, Tryz.t62, rfl, rfl, rfl, rfl⟩
instance ty63 : Ty Tryz.prog 63 (TypeDesc.func #[9, 9, 3] #[3, 39] false) 1 8 Value.nilFunc := ⟨Tryz.underlying63, Tryz.t63, rfl, rfl, rfl, rfl⟩
instance ty64 : Ty Tryz.prog 64 (TypeDesc.tuple #[3, 3, 3]) 1 0 (Value.tuple #[Value.int IntKind.i64 0, Value.int IntKind.i64 0, Value.int IntKind.i64 0]) := ⟨Tryz.underlying64, Tryz.t64, rfl, rfl, rfl, rfl⟩
instance ty65 : Ty Tryz.prog 65 (TypeDesc.func #[] #[3, 3, 3] false) 1 8 Value.nilFunc := ⟨Tryz.underlying65, Tryz.t65, rfl, rfl, rfl, rfl⟩
instance ty66 : Ty Tryz.prog 66 (TypeDesc.func #[3, 38] #[39] false) 1 8 Value.nilFunc := ⟨Tryz.underlying66, Tryz.t66, rfl, rfl, rfl, rfl⟩
instance ty67 : Ty Tryz.prog 67 (TypeDesc.func #[] #[9] false) 1 8 Value.nilFunc := ⟨Tryz.underlying67, Tryz.t67, rfl, rfl, rfl, rfl⟩
instance ty68 : Ty Tryz.prog 68 (TypeDesc.func #[9, 3] #[4] false) 1 8 Value.nilFunc := ⟨Tryz.underlying68, Tryz.t68, rfl, rfl, rfl, rfl⟩
instance ty69 : Ty Tryz.prog 69 (TypeDesc.func #[22] #[3] false) 1 8 Value.nilFunc := ⟨Tryz.underlying69, Tryz.t69, rfl, rfl, rfl, rfl⟩
instance ty70 : Ty Tryz.prog 70 (TypeDesc.struct
      #[{ name := "Packet", type := 3, offset := 0, embedded := false, tag := "", pkgPath := "", byteOffset := 0 },
        { name := "Grave", type := 3, offset := 1, embedded := false, tag := "", pkgPath := "", byteOffset := 8 },
        { name := "Group", type := 9, offset := 2, embedded := false, tag := "", pkgPath := "", byteOffset := 16 },
        { name := "Text", type := 9, offset := 3, embedded := false, tag := "", pkgPath := "", byteOffset := 32 },
        { name := "Proto", type := 9, offset := 4, embedded := false, tag := "", pkgPath := "", byteOffset := 48 },
        { name := "At", type := 3, offset := 5, embedded := false, tag := "", pkgPath := "", byteOffset := 64 },
        { name := "Times", type := 3, offset := 6, embedded := false, tag := "", pkgPath := "", byteOffset := 72 }]) 7 80 (Value.agg
        #[Value.int IntKind.i64 0, Value.int IntKind.i64 0, Value.string { data := #[] }, Value.string { data := #[] },
          Value.string { data := #[] }, Value.int IntKind.i64 0, Value.int IntKind.i64 0]) := ⟨Tryz.underlying70, Tryz.t70, rfl, rfl, rfl, rfl⟩
instance ty71 : Ty Tryz.prog 71 (TypeDesc.tuple #[33, 39]) 1 0 (Value.tuple #[Value.slice none 0 0, Value.int IntKind.i64 0]) := ⟨Tryz.underlying71, Tryz.t71, rfl, rfl, rfl, rfl⟩
instance ty72 : Ty Tryz.prog 72 (TypeDesc.func #[62, 3] #[33, 39] false) 1 8 Value.nilFunc := ⟨Tryz.underlying72, Tryz.t72, rfl, rfl, rfl, rfl⟩
instance ty73 : Ty Tryz.prog 73 (TypeDesc.tuple #[1, 39]) 1 0 (Value.tuple #[Value.nilFunc, Value.int IntKind.i64 0]) := ⟨Tryz.underlying73, Tryz.t73, rfl, rfl, rfl, rfl⟩
instance ty74 : Ty Tryz.prog 74 (TypeDesc.func #[] #[1, 39] false) 1 8 Value.nilFunc := ⟨Tryz.underlying74, Tryz.t74, rfl, rfl, rfl, rfl⟩
instance ty75 : Ty Tryz.prog 75 (TypeDesc.func #[33, 92] #[33] false) 1 8 Value.nilFunc := ⟨Tryz.underlying75, Tryz.t75, rfl, rfl, rfl, rfl⟩
instance ty76 : Ty Tryz.prog 76 (TypeDesc.func #[] #[33] false) 1 8 Value.nilFunc := ⟨Tryz.underlying76, Tryz.t76, rfl, rfl, rfl, rfl⟩
instance ty77 : Ty Tryz.prog 77 (TypeDesc.struct #[]) 0 0 (Value.agg #[]) := ⟨Tryz.underlying77, Tryz.t77, rfl, rfl, rfl, rfl⟩
instance ty78 : Ty Tryz.prog 78 (TypeDesc.struct #[]) 0 0 (Value.agg #[]) := ⟨Tryz.underlying78, Tryz.t78, rfl, rfl, rfl, rfl⟩
instance ty79 : Ty Tryz.prog 79 (TypeDesc.int IntKind.u32) 1 4 (Value.int IntKind.u32 0) := ⟨Tryz.underlying79, Tryz.t79, rfl, rfl, rfl, rfl⟩
instance ty80 : Ty Tryz.prog 80 (TypeDesc.struct
      #[{ name := "state", type := 21, offset := 0, embedded := false, tag := "", pkgPath := "internal/sync",
          byteOffset := 0 },
        { name := "sema", type := 79, offset := 1, embedded := false, tag := "", pkgPath := "internal/sync",
          byteOffset := 4 }]) 2 8 (Value.agg #[Value.int IntKind.i32 0, Value.int IntKind.u32 0]) := ⟨Tryz.underlying80, Tryz.t80, rfl, rfl, rfl, rfl⟩
instance ty81 : Ty Tryz.prog 81 (TypeDesc.struct
      #[{ name := "state", type := 21, offset := 0, embedded := false, tag := "", pkgPath := "internal/sync",
          byteOffset := 0 },
        { name := "sema", type := 79, offset := 1, embedded := false, tag := "", pkgPath := "internal/sync",
          byteOffset := 4 }]) 2 8 (Value.agg #[Value.int IntKind.i32 0, Value.int IntKind.u32 0]) := ⟨Tryz.underlying81, Tryz.t81, rfl, rfl, rfl, rfl⟩
instance ty82 : Ty Tryz.prog 82 (TypeDesc.struct
      #[{ name := "_", type := 78, offset := 0, embedded := false, tag := "", pkgPath := "sync", byteOffset := 0 },
        { name := "mu", type := 81, offset := 0, embedded := false, tag := "", pkgPath := "sync", byteOffset := 0 }]) 2 8 (Value.agg #[Value.int IntKind.i32 0, Value.int IntKind.u32 0]) := ⟨Tryz.underlying82, Tryz.t82, rfl, rfl, rfl, rfl⟩
instance ty83 : Ty Tryz.prog 83 (TypeDesc.struct
      #[{ name := "_", type := 78, offset := 0, embedded := false, tag := "", pkgPath := "sync", byteOffset := 0 },
        { name := "mu", type := 81, offset := 0, embedded := false, tag := "", pkgPath := "sync", byteOffset := 0 }]) 2 8 (Value.agg #[Value.int IntKind.i32 0, Value.int IntKind.u32 0]) := ⟨Tryz.underlying83, Tryz.t83, rfl, rfl, rfl, rfl⟩
instance ty84 : Ty Tryz.prog 84 (TypeDesc.slice 33) 1 24 (Value.slice none 0 0) := ⟨Tryz.underlying84, Tryz.t84, rfl, rfl, rfl, rfl⟩
instance ty85 : Ty Tryz.prog 85 (TypeDesc.map 96 3) 1 8 (Value.map none) := ⟨Tryz.underlying85, Tryz.t85, rfl, rfl, rfl, rfl⟩
instance ty86 : Ty Tryz.prog 86 (TypeDesc.array 3 3) 3 24 (Value.agg #[Value.int IntKind.i64 0, Value.int IntKind.i64 0, Value.int IntKind.i64 0]) := ⟨Tryz.underlying86, Tryz.t86, rfl, rfl, rfl, rfl⟩
instance ty87 : Ty Tryz.prog 87 (TypeDesc.struct
      #[{ name := "packets", type := 84, offset := 0, embedded := false, tag := "", pkgPath := "wireglass/note",
          byteOffset := 0 },
        { name := "told", type := 84, offset := 1, embedded := false, tag := "", pkgPath := "wireglass/note",
          byteOffset := 24 },
        { name := "raised", type := 85, offset := 2, embedded := false, tag := "", pkgPath := "wireglass/note",
          byteOffset := 48 },
        { name := "covered", type := 86, offset := 3, embedded := false, tag := "", pkgPath := "wireglass/note",
          byteOffset := 56 }]) 6 80 (Value.agg
        #[Value.slice none 0 0, Value.slice none 0 0, Value.map none, Value.int IntKind.i64 0, Value.int IntKind.i64 0,
          Value.int IntKind.i64 0]) := ⟨Tryz.underlying87, Tryz.t87, rfl, rfl, rfl, rfl⟩
instance ty88 : Ty Tryz.prog 88 (TypeDesc.struct
      #[{ name := "packets", type := 84, offset := 0, embedded := false, tag := "", pkgPath := "wireglass/note",
          byteOffset := 0 },
        { name := "told", type := 84, offset := 1, embedded := false, tag := "", pkgPath := "wireglass/note",
          byteOffset := 24 },
        { name := "raised", type := 85, offset := 2, embedded := false, tag := "", pkgPath := "wireglass/note",
          byteOffset := 48 },
        { name := "covered", type := 86, offset := 3, embedded := false, tag := "", pkgPath := "wireglass/note",
          byteOffset := 56 }]) 6 80 (Value.agg
        #[Value.slice none 0 0, Value.slice none 0 0, Value.map none, Value.int IntKind.i64 0, Value.int IntKind.i64 0,
          Value.int IntKind.i64 0]) := ⟨Tryz.underlying88, Tryz.t88, rfl, rfl, rfl, rfl⟩
instance ty89 : Ty Tryz.prog 89 (TypeDesc.pointer 140) 1 8 (Value.pointer none) := ⟨Tryz.underlying89, Tryz.t89, rfl, rfl, rfl, rfl⟩
instance ty90 : Ty Tryz.prog 90 (TypeDesc.struct
      #[{ name := "mu", type := 83, offset := 0, embedded := false, tag := "", pkgPath := "wireglass/note",
          byteOffset := 0 },
        { name := "state", type := 88, offset := 2, embedded := true, tag := "", pkgPath := "wireglass/note",
          byteOffset := 8 },
        { name := "once", type := 89, offset := 8, embedded := false, tag := "", pkgPath := "wireglass/note",
          byteOffset := 88 },
        { name := "text", type := 9, offset := 9, embedded := false, tag := "", pkgPath := "wireglass/note",
          byteOffset := 96 }]) 10 112 (Value.agg
        #[Value.int IntKind.i32 0, Value.int IntKind.u32 0, Value.slice none 0 0, Value.slice none 0 0, Value.map none,
          Value.int IntKind.i64 0, Value.int IntKind.i64 0, Value.int IntKind.i64 0, Value.pointer none,
          Value.string { data := #[] }]) := ⟨Tryz.underlying90, Tryz.t90, rfl, rfl, rfl, rfl⟩
instance ty91 : Ty Tryz.prog 91 (TypeDesc.struct
      #[{ name := "mu", type := 83, offset := 0, embedded := false, tag := "", pkgPath := "wireglass/note",
          byteOffset := 0 },
        { name := "state", type := 88, offset := 2, embedded := true, tag := "", pkgPath := "wireglass/note",
          byteOffset := 8 },
        { name := "once", type := 89, offset := 8, embedded := false, tag := "", pkgPath := "wireglass/note",
          byteOffset := 88 },
        { name := "text", type := 9, offset := 9, embedded := false, tag := "", pkgPath := "wireglass/note",
          byteOffset := 96 }]) 10 112 (Value.agg
        #[Value.int IntKind.i32 0, Value.int IntKind.u32 0, Value.slice none 0 0, Value.slice none 0 0, Value.map none,
          Value.int IntKind.i64 0, Value.int IntKind.i64 0, Value.int IntKind.i64 0, Value.pointer none,
          Value.string { data := #[] }]) := ⟨Tryz.underlying91, Tryz.t91, rfl, rfl, rfl, rfl⟩
instance ty92 : Ty Tryz.prog 92 (TypeDesc.func #[38] #[4] false) 1 8 Value.nilFunc := ⟨Tryz.underlying92, Tryz.t92, rfl, rfl, rfl, rfl⟩
instance ty93 : Ty Tryz.prog 93 (TypeDesc.slice 98) 1 24 (Value.slice none 0 0) := ⟨Tryz.underlying93, Tryz.t93, rfl, rfl, rfl, rfl⟩
instance ty94 : Ty Tryz.prog 94 (TypeDesc.func #[93, 99] #[3] false) 1 8 Value.nilFunc := ⟨Tryz.underlying94, Tryz.t94, rfl, rfl, rfl, rfl⟩
instance ty95 : Ty Tryz.prog 95 (TypeDesc.struct
      #[{ name := "group", type := 9, offset := 0, embedded := false, tag := "", pkgPath := "wireglass/note",
          byteOffset := 0 },
        { name := "text", type := 9, offset := 1, embedded := false, tag := "", pkgPath := "wireglass/note",
          byteOffset := 16 }]) 2 32 (Value.agg #[Value.string { data := #[] }, Value.string { data := #[] }]) := ⟨Tryz.underlying95, Tryz.t95, rfl, rfl, rfl, rfl⟩
instance ty96 : Ty Tryz.prog 96 (TypeDesc.struct
      #[{ name := "group", type := 9, offset := 0, embedded := false, tag := "", pkgPath := "wireglass/note",
          byteOffset := 0 },
        { name := "text", type := 9, offset := 1, embedded := false, tag := "", pkgPath := "wireglass/note",
          byteOffset := 16 }]) 2 32 (Value.agg #[Value.string { data := #[] }, Value.string { data := #[] }]) := ⟨Tryz.underlying96, Tryz.t96, rfl, rfl, rfl, rfl⟩
instance ty97 : Ty Tryz.prog 97 (TypeDesc.struct
      #[{ name := "subject", type := 96, offset := 0, embedded := true, tag := "", pkgPath := "wireglass/note",
          byteOffset := 0 },
        { name := "times", type := 3, offset := 2, embedded := false, tag := "", pkgPath := "wireglass/note",
          byteOffset := 32 },
        { name := "worst", type := 3, offset := 3, embedded := false, tag := "", pkgPath := "wireglass/note",
          byteOffset := 40 }]) 4 48 (Value.agg
        #[Value.string { data := #[] }, Value.string { data := #[] }, Value.int IntKind.i64 0, Value.int IntKind.i64 0]) := ⟨Tryz.underlying97, Tryz.t97, rfl, rfl, rfl, rfl⟩
instance ty98 : Ty Tryz.prog 98 (TypeDesc.struct
      #[{ name := "subject", type := 96, offset := 0, embedded := true, tag := "", pkgPath := "wireglass/note",
          byteOffset := 0 },
        { name := "times", type := 3, offset := 2, embedded := false, tag := "", pkgPath := "wireglass/note",
          byteOffset := 32 },
        { name := "worst", type := 3, offset := 3, embedded := false, tag := "", pkgPath := "wireglass/note",
          byteOffset := 40 }]) 4 48 (Value.agg
        #[Value.string { data := #[] }, Value.string { data := #[] }, Value.int IntKind.i64 0, Value.int IntKind.i64 0]) := ⟨Tryz.underlying98, Tryz.t98, rfl, rfl, rfl, rfl⟩
instance ty99 : Ty Tryz.prog 99 (TypeDesc.func #[98] #[4] false) 1 8 Value.nilFunc := ⟨Tryz.underlying99, Tryz.t99, rfl, rfl, rfl, rfl⟩
instance ty100 : Ty Tryz.prog 100 (TypeDesc.func #[93, 101] #[] false) 1 8 Value.nilFunc := ⟨Tryz.underlying100, Tryz.t100, rfl, rfl, rfl, rfl⟩
instance ty101 : Ty Tryz.prog 101 (TypeDesc.func #[98, 98] #[3] false) 1 8 Value.nilFunc := ⟨Tryz.underlying101, Tryz.t101, rfl, rfl, rfl, rfl⟩
instance ty102 : Ty Tryz.prog 102 (TypeDesc.func #[98] #[3] false) 1 8 Value.nilFunc := ⟨Tryz.underlying102, Tryz.t102, rfl, rfl, rfl, rfl⟩
instance ty103 : Ty Tryz.prog 103 (TypeDesc.func #[3] #[9] false) 1 8 Value.nilFunc := ⟨Tryz.underlying103, Tryz.t103, rfl, rfl, rfl, rfl⟩
instance ty104 : Ty Tryz.prog 104 (TypeDesc.func #[33, 105] #[4] false) 1 8 Value.nilFunc := ⟨Tryz.underlying104, Tryz.t104, rfl, rfl, rfl, rfl⟩
instance ty105 : Ty Tryz.prog 105 (TypeDesc.slice 116) 1 24 (Value.slice none 0 0) := ⟨Tryz.underlying105, Tryz.t105, rfl, rfl, rfl, rfl⟩
instance ty106 : Ty Tryz.prog 106 (TypeDesc.func #[3] #[105] false) 1 8 Value.nilFunc := ⟨Tryz.underlying106, Tryz.t106, rfl, rfl, rfl, rfl⟩
instance ty107 : Ty Tryz.prog 107 (TypeDesc.func #[] #[3] false) 1 8 Value.nilFunc := ⟨Tryz.underlying107, Tryz.t107, rfl, rfl, rfl, rfl⟩
instance ty108 : Ty Tryz.prog 108 (TypeDesc.func #[84, 3] #[84] false) 1 8 Value.nilFunc := ⟨Tryz.underlying108, Tryz.t108, rfl, rfl, rfl, rfl⟩
instance ty109 : Ty Tryz.prog 109 (TypeDesc.slice 115) 1 24 (Value.slice none 0 0) := ⟨Tryz.underlying109, Tryz.t109, rfl, rfl, rfl, rfl⟩
instance ty110 : Ty Tryz.prog 110 (TypeDesc.slice 169) 1 24 (Value.slice none 0 0) := ⟨Tryz.underlying110, Tryz.t110, rfl, rfl, rfl, rfl⟩
instance ty111 : Ty Tryz.prog 111 (TypeDesc.struct
      #[{ name := "l", type := 109, offset := 0, embedded := false, tag := "", pkgPath := "wireglass/wireglassref28",
          byteOffset := 0 },
        { name := "raised", type := 110, offset := 1, embedded := false, tag := "",
          pkgPath := "wireglass/wireglassref28", byteOffset := 24 },
        { name := "bits", type := 86, offset := 2, embedded := false, tag := "", pkgPath := "wireglass/wireglassref28",
          byteOffset := 48 }]) 5 72 (Value.agg
        #[Value.slice none 0 0, Value.slice none 0 0, Value.int IntKind.i64 0, Value.int IntKind.i64 0,
          Value.int IntKind.i64 0]) := ⟨Tryz.underlying111, Tryz.t111, rfl, rfl, rfl, rfl⟩
instance ty112 : Ty Tryz.prog 112 (TypeDesc.struct
      #[{ name := "l", type := 109, offset := 0, embedded := false, tag := "", pkgPath := "wireglass/wireglassref28",
          byteOffset := 0 },
        { name := "raised", type := 110, offset := 1, embedded := false, tag := "",
          pkgPath := "wireglass/wireglassref28", byteOffset := 24 },
        { name := "bits", type := 86, offset := 2, embedded := false, tag := "", pkgPath := "wireglass/wireglassref28",
          byteOffset := 48 }]) 5 72 (Value.agg
        #[Value.slice none 0 0, Value.slice none 0 0, Value.int IntKind.i64 0, Value.int IntKind.i64 0,
          Value.int IntKind.i64 0]) := ⟨Tryz.underlying112, Tryz.t112, rfl, rfl, rfl, rfl⟩
instance ty113 : Ty Tryz.prog 113 (TypeDesc.slice 119) 1 24 (Value.slice none 0 0) := ⟨Tryz.underlying113, Tryz.t113, rfl, rfl, rfl, rfl⟩
instance ty114 : Ty Tryz.prog 114 (TypeDesc.struct
      #[{ name := "tree", type := 113, offset := 0, embedded := false, tag := "", pkgPath := "wireglass/wireglassref28",
          byteOffset := 0 },
        { name := "told", type := 113, offset := 1, embedded := false, tag := "", pkgPath := "wireglass/wireglassref28",
          byteOffset := 24 }]) 2 48 (Value.agg #[Value.slice none 0 0, Value.slice none 0 0]) := ⟨Tryz.underlying114, Tryz.t114, rfl, rfl, rfl, rfl⟩
instance ty115 : Ty Tryz.prog 115 (TypeDesc.struct
      #[{ name := "tree", type := 113, offset := 0, embedded := false, tag := "", pkgPath := "wireglass/wireglassref28",
          byteOffset := 0 },
        { name := "told", type := 113, offset := 1, embedded := false, tag := "", pkgPath := "wireglass/wireglassref28",
          byteOffset := 24 }]) 2 48 (Value.agg #[Value.slice none 0 0, Value.slice none 0 0]) := ⟨Tryz.underlying115, Tryz.t115, rfl, rfl, rfl, rfl⟩
instance ty116 : Ty Tryz.prog 116 (TypeDesc.struct
      #[{ name := "Packet", type := 3, offset := 0, embedded := false, tag := "", pkgPath := "", byteOffset := 0 },
        { name := "Grave", type := 3, offset := 1, embedded := false, tag := "", pkgPath := "", byteOffset := 8 },
        { name := "Group", type := 9, offset := 2, embedded := false, tag := "", pkgPath := "", byteOffset := 16 },
        { name := "Text", type := 9, offset := 3, embedded := false, tag := "", pkgPath := "", byteOffset := 32 },
        { name := "Proto", type := 9, offset := 4, embedded := false, tag := "", pkgPath := "", byteOffset := 48 },
        { name := "At", type := 3, offset := 5, embedded := false, tag := "", pkgPath := "", byteOffset := 64 },
        { name := "Times", type := 3, offset := 6, embedded := false, tag := "", pkgPath := "", byteOffset := 72 }]) 7 80 (Value.agg
        #[Value.int IntKind.i64 0, Value.int IntKind.i64 0, Value.string { data := #[] }, Value.string { data := #[] },
          Value.string { data := #[] }, Value.int IntKind.i64 0, Value.int IntKind.i64 0]) := ⟨Tryz.underlying116, Tryz.t116, rfl, rfl, rfl, rfl⟩
instance ty117 : Ty Tryz.prog 117 (TypeDesc.func #[119, 3] #[116] false) 1 8 Value.nilFunc := ⟨Tryz.underlying117, Tryz.t117, rfl, rfl, rfl, rfl⟩
instance ty118 : Ty Tryz.prog 118 (TypeDesc.struct
      #[{ name := "Note", type := 116, offset := 0, embedded := true, tag := "", pkgPath := "", byteOffset := 0 },
        { name := "was", type := 3, offset := 7, embedded := false, tag := "", pkgPath := "wireglass/wireglassref28",
          byteOffset := 80 }]) 8 88 (Value.agg
        #[Value.int IntKind.i64 0, Value.int IntKind.i64 0, Value.string { data := #[] }, Value.string { data := #[] },
          Value.string { data := #[] }, Value.int IntKind.i64 0, Value.int IntKind.i64 0, Value.int IntKind.i64 0]) := ⟨Tryz.underlying118, Tryz.t118, rfl, rfl, rfl, rfl⟩
instance ty119 : Ty Tryz.prog 119 (TypeDesc.struct
      #[{ name := "Note", type := 116, offset := 0, embedded := true, tag := "", pkgPath := "", byteOffset := 0 },
        { name := "was", type := 3, offset := 7, embedded := false, tag := "", pkgPath := "wireglass/wireglassref28",
          byteOffset := 80 }]) 8 88 (Value.agg
        #[Value.int IntKind.i64 0, Value.int IntKind.i64 0, Value.string { data := #[] }, Value.string { data := #[] },
          Value.string { data := #[] }, Value.int IntKind.i64 0, Value.int IntKind.i64 0, Value.int IntKind.i64 0]) := ⟨Tryz.underlying119, Tryz.t119, rfl, rfl, rfl, rfl⟩
instance ty120 : Ty Tryz.prog 120 (TypeDesc.func #[26, 3] #[62] false) 1 8 Value.nilFunc := ⟨Tryz.underlying120, Tryz.t120, rfl, rfl, rfl, rfl⟩
instance ty121 : Ty Tryz.prog 121 (TypeDesc.func #[26, 3] #[70] false) 1 8 Value.nilFunc := ⟨Tryz.underlying121, Tryz.t121, rfl, rfl, rfl, rfl⟩
instance ty122 : Ty Tryz.prog 122 (TypeDesc.func #[3, 116] #[39] false) 1 8 Value.nilFunc := ⟨Tryz.underlying122, Tryz.t122, rfl, rfl, rfl, rfl⟩
instance ty123 : Ty Tryz.prog 123 (TypeDesc.func #[9] #[105] false) 1 8 Value.nilFunc := ⟨Tryz.underlying123, Tryz.t123, rfl, rfl, rfl, rfl⟩
instance ty124 : Ty Tryz.prog 124 (TypeDesc.func #[84, 84, 125] #[4] false) 1 8 Value.nilFunc := ⟨Tryz.underlying124, Tryz.t124, rfl, rfl, rfl, rfl⟩
instance ty125 : Ty Tryz.prog 125 (TypeDesc.func #[33, 33] #[4] false) 1 8 Value.nilFunc := ⟨Tryz.underlying125, Tryz.t125, rfl, rfl, rfl, rfl⟩
instance ty126 : Ty Tryz.prog 126 (TypeDesc.func #[84, 84] #[4] false) 1 8 Value.nilFunc := ⟨Tryz.underlying126, Tryz.t126, rfl, rfl, rfl, rfl⟩
instance ty127 : Ty Tryz.prog 127 (TypeDesc.func #[85, 85] #[4] false) 1 8 Value.nilFunc := ⟨Tryz.underlying127, Tryz.t127, rfl, rfl, rfl, rfl⟩
instance ty128 : Ty Tryz.prog 128 (TypeDesc.func #[84] #[84] false) 1 8 Value.nilFunc := ⟨Tryz.underlying128, Tryz.t128, rfl, rfl, rfl, rfl⟩
instance ty129 : Ty Tryz.prog 129 (TypeDesc.func #[85] #[85] false) 1 8 Value.nilFunc := ⟨Tryz.underlying129, Tryz.t129, rfl, rfl, rfl, rfl⟩
instance ty130 : Ty Tryz.prog 130 (TypeDesc.func #[62, 9, 131] #[] false) 1 8 Value.nilFunc := ⟨Tryz.underlying130, Tryz.t130, rfl, rfl, rfl, rfl⟩
instance ty131 : Ty Tryz.prog 131 (TypeDesc.func #[62, 9] #[] false) 1 8 Value.nilFunc := ⟨Tryz.underlying131, Tryz.t131, rfl, rfl, rfl, rfl⟩
instance ty132 : Ty Tryz.prog 132 (TypeDesc.func #[3] #[4] false) 1 8 Value.nilFunc := ⟨Tryz.underlying132, Tryz.t132, rfl, rfl, rfl, rfl⟩
instance ty133 : Ty Tryz.prog 133 (TypeDesc.func #[9] #[4] false) 1 8 Value.nilFunc := ⟨Tryz.underlying133, Tryz.t133, rfl, rfl, rfl, rfl⟩
instance ty134 : Ty Tryz.prog 134 (TypeDesc.func #[33, 92] #[3] false) 1 8 Value.nilFunc := ⟨Tryz.underlying134, Tryz.t134, rfl, rfl, rfl, rfl⟩
instance ty135 : Ty Tryz.prog 135 (TypeDesc.func #[38, 38] #[4] false) 1 8 Value.nilFunc := ⟨Tryz.underlying135, Tryz.t135, rfl, rfl, rfl, rfl⟩
instance ty136 : Ty Tryz.prog 136 (TypeDesc.struct #[]) 0 0 (Value.agg #[]) := ⟨Tryz.underlying136, Tryz.t136, rfl, rfl, rfl, rfl⟩
instance ty137 : Ty Tryz.prog 137 (TypeDesc.struct
      #[{ name := "_", type := 136, offset := 0, embedded := false, tag := "", pkgPath := "sync/atomic",
          byteOffset := 0 },
        { name := "v", type := 79, offset := 0, embedded := false, tag := "", pkgPath := "sync/atomic",
          byteOffset := 0 }]) 1 4 (Value.agg #[Value.int IntKind.u32 0]) := ⟨Tryz.underlying137, Tryz.t137, rfl, rfl, rfl, rfl⟩
instance ty138 : Ty Tryz.prog 138 (TypeDesc.struct
      #[{ name := "_", type := 136, offset := 0, embedded := false, tag := "", pkgPath := "sync/atomic",
          byteOffset := 0 },
        { name := "v", type := 79, offset := 0, embedded := false, tag := "", pkgPath := "sync/atomic",
          byteOffset := 0 }]) 1 4 (Value.agg #[Value.int IntKind.u32 0]) := ⟨Tryz.underlying138, Tryz.t138, rfl, rfl, rfl, rfl⟩
instance ty139 : Ty Tryz.prog 139 (TypeDesc.struct
      #[{ name := "_", type := 78, offset := 0, embedded := false, tag := "", pkgPath := "sync", byteOffset := 0 },
        { name := "done", type := 138, offset := 0, embedded := false, tag := "", pkgPath := "sync", byteOffset := 0 },
        { name := "m", type := 83, offset := 1, embedded := false, tag := "", pkgPath := "sync", byteOffset := 4 }]) 3 12 (Value.agg #[Value.int IntKind.u32 0, Value.int IntKind.i32 0, Value.int IntKind.u32 0]) := ⟨Tryz.underlying139, Tryz.t139, rfl, rfl, rfl, rfl⟩
instance ty140 : Ty Tryz.prog 140 (TypeDesc.struct
      #[{ name := "_", type := 78, offset := 0, embedded := false, tag := "", pkgPath := "sync", byteOffset := 0 },
        { name := "done", type := 138, offset := 0, embedded := false, tag := "", pkgPath := "sync", byteOffset := 0 },
        { name := "m", type := 83, offset := 1, embedded := false, tag := "", pkgPath := "sync", byteOffset := 4 }]) 3 12 (Value.agg #[Value.int IntKind.u32 0, Value.int IntKind.i32 0, Value.int IntKind.u32 0]) := ⟨Tryz.underlying140, Tryz.t140, rfl, rfl, rfl, rfl⟩
instance ty141 : Ty Tryz.prog 141 (TypeDesc.func #[1] #[] false) 1 8 Value.nilFunc := ⟨Tryz.underlying141, Tryz.t141, rfl, rfl, rfl, rfl⟩
instance ty142 : Ty Tryz.prog 142 (TypeDesc.pointer 144) 1 8 (Value.pointer none) := ⟨Tryz.underlying142, Tryz.t142, rfl, rfl, rfl, rfl⟩
instance ty143 : Ty Tryz.prog 143 (TypeDesc.struct
      #[{ name := "addr", type := 142, offset := 0, embedded := false, tag := "", pkgPath := "strings",
          byteOffset := 0 },
        { name := "buf", type := 49, offset := 1, embedded := false, tag := "", pkgPath := "strings",
          byteOffset := 8 }]) 2 32 (Value.agg #[Value.pointer none, Value.slice none 0 0]) := ⟨Tryz.underlying143, Tryz.t143, rfl, rfl, rfl, rfl⟩
instance ty144 : Ty Tryz.prog 144 (TypeDesc.struct
      #[{ name := "addr", type := 142, offset := 0, embedded := false, tag := "", pkgPath := "strings",
          byteOffset := 0 },
        { name := "buf", type := 49, offset := 1, embedded := false, tag := "", pkgPath := "strings",
          byteOffset := 8 }]) 2 32 (Value.agg #[Value.pointer none, Value.slice none 0 0]) := ⟨Tryz.underlying144, Tryz.t144, rfl, rfl, rfl, rfl⟩
instance ty145 : Ty Tryz.prog 145 (TypeDesc.interface #[("Error", 67)]) 1 16 Value.nilIface := ⟨Tryz.underlying145, Tryz.t145, rfl, rfl, rfl, rfl⟩
instance ty146 : Ty Tryz.prog 146 (TypeDesc.interface #[("Error", 67)]) 1 16 Value.nilIface := ⟨Tryz.underlying146, Tryz.t146, rfl, rfl, rfl, rfl⟩
instance ty147 : Ty Tryz.prog 147 (TypeDesc.tuple #[3, 146]) 1 0 (Value.tuple #[Value.int IntKind.i64 0, Value.nilIface]) := ⟨Tryz.underlying147, Tryz.t147, rfl, rfl, rfl, rfl⟩
instance ty148 : Ty Tryz.prog 148 (TypeDesc.func #[9] #[3, 146] false) 1 8 Value.nilFunc := ⟨Tryz.underlying148, Tryz.t148, rfl, rfl, rfl, rfl⟩
instance ty149 : Ty Tryz.prog 149 (TypeDesc.func #[38] #[9] false) 1 8 Value.nilFunc := ⟨Tryz.underlying149, Tryz.t149, rfl, rfl, rfl, rfl⟩
instance ty150 : Ty Tryz.prog 150 (TypeDesc.tuple #[33, 3]) 1 0 (Value.tuple #[Value.slice none 0 0, Value.int IntKind.i64 0]) := ⟨Tryz.underlying150, Tryz.t150, rfl, rfl, rfl, rfl⟩
instance ty151 : Ty Tryz.prog 151 (TypeDesc.func #[62, 3] #[33, 3] false) 1 8 Value.nilFunc := ⟨Tryz.underlying151, Tryz.t151, rfl, rfl, rfl, rfl⟩
instance ty152 : Ty Tryz.prog 152 (TypeDesc.func #[93, 3, 3, 3, 101] #[] false) 1 8 Value.nilFunc := ⟨Tryz.underlying152, Tryz.t152, rfl, rfl, rfl, rfl⟩
instance ty153 : Ty Tryz.prog 153 (TypeDesc.func #[154] #[3] false) 1 8 Value.nilFunc := ⟨Tryz.underlying153, Tryz.t153, rfl, rfl, rfl, rfl⟩
instance ty154 : Ty Tryz.prog 154 (TypeDesc.int IntKind.u64) 1 8 (Value.int IntKind.u64 0) := ⟨Tryz.underlying154, Tryz.t154, rfl, rfl, rfl, rfl⟩
instance ty155 : Ty Tryz.prog 155 (TypeDesc.func #[199] #[3] true) 1 8 Value.nilFunc := ⟨Tryz.underlying155, Tryz.t155, rfl, rfl, rfl, rfl⟩
instance ty156 : Ty Tryz.prog 156 (TypeDesc.func #[3, 3] #[3] false) 1 8 Value.nilFunc := ⟨Tryz.underlying156, Tryz.t156, rfl, rfl, rfl, rfl⟩
instance ty157 : Ty Tryz.prog 157 (TypeDesc.func #[9, 9] #[3] false) 1 8 Value.nilFunc := ⟨Tryz.underlying157, Tryz.t157, rfl, rfl, rfl, rfl⟩
instance ty158 : Ty Tryz.prog 158 (TypeDesc.func #[84] #[33] true) 1 8 Value.nilFunc := ⟨Tryz.underlying158, Tryz.t158, rfl, rfl, rfl, rfl⟩
instance ty159 : Ty Tryz.prog 159 (TypeDesc.func #[38] #[38] false) 1 8 Value.nilFunc := ⟨Tryz.underlying159, Tryz.t159, rfl, rfl, rfl, rfl⟩
instance ty160 : Ty Tryz.prog 160 (TypeDesc.slice 163) 1 24 (Value.slice none 0 0) := ⟨Tryz.underlying160, Tryz.t160, rfl, rfl, rfl, rfl⟩
instance ty161 : Ty Tryz.prog 161 (TypeDesc.func #[] #[105] false) 1 8 Value.nilFunc := ⟨Tryz.underlying161, Tryz.t161, rfl, rfl, rfl, rfl⟩
instance ty162 : Ty Tryz.prog 162 (TypeDesc.struct
      #[{ name := "group", type := 9, offset := 0, embedded := false, tag := "", pkgPath := "wireglass/wireglassref28",
          byteOffset := 0 },
        { name := "text", type := 9, offset := 1, embedded := false, tag := "", pkgPath := "wireglass/wireglassref28",
          byteOffset := 16 },
        { name := "times", type := 3, offset := 2, embedded := false, tag := "", pkgPath := "wireglass/wireglassref28",
          byteOffset := 32 },
        { name := "grave", type := 3, offset := 3, embedded := false, tag := "", pkgPath := "wireglass/wireglassref28",
          byteOffset := 40 }]) 4 48 (Value.agg
        #[Value.string { data := #[] }, Value.string { data := #[] }, Value.int IntKind.i64 0, Value.int IntKind.i64 0]) := ⟨Tryz.underlying162, Tryz.t162, rfl, rfl, rfl, rfl⟩
instance ty163 : Ty Tryz.prog 163 (TypeDesc.struct
      #[{ name := "group", type := 9, offset := 0, embedded := false, tag := "", pkgPath := "wireglass/wireglassref28",
          byteOffset := 0 },
        { name := "text", type := 9, offset := 1, embedded := false, tag := "", pkgPath := "wireglass/wireglassref28",
          byteOffset := 16 },
        { name := "times", type := 3, offset := 2, embedded := false, tag := "", pkgPath := "wireglass/wireglassref28",
          byteOffset := 32 },
        { name := "grave", type := 3, offset := 3, embedded := false, tag := "", pkgPath := "wireglass/wireglassref28",
          byteOffset := 40 }]) 4 48 (Value.agg
        #[Value.string { data := #[] }, Value.string { data := #[] }, Value.int IntKind.i64 0, Value.int IntKind.i64 0]) := ⟨Tryz.underlying163, Tryz.t163, rfl, rfl, rfl, rfl⟩
instance ty164 : Ty Tryz.prog 164 (TypeDesc.func #[163] #[4] false) 1 8 Value.nilFunc := ⟨Tryz.underlying164, Tryz.t164, rfl, rfl, rfl, rfl⟩
instance ty165 : Ty Tryz.prog 165 (TypeDesc.tuple #[9, 39]) 1 0 (Value.tuple #[Value.string { data := #[] }, Value.int IntKind.i64 0]) := ⟨Tryz.underlying165, Tryz.t165, rfl, rfl, rfl, rfl⟩
instance ty166 : Ty Tryz.prog 166 (TypeDesc.func #[9] #[9, 39] false) 1 8 Value.nilFunc := ⟨Tryz.underlying166, Tryz.t166, rfl, rfl, rfl, rfl⟩
instance ty167 : Ty Tryz.prog 167 (TypeDesc.pointer 83) 1 8 (Value.pointer none) := ⟨Tryz.underlying167, Tryz.t167, rfl, rfl, rfl, rfl⟩
instance ty168 : Ty Tryz.prog 168 (TypeDesc.struct
      #[{ name := "group", type := 9, offset := 0, embedded := false, tag := "", pkgPath := "wireglass/wireglassref28",
          byteOffset := 0 },
        { name := "text", type := 9, offset := 1, embedded := false, tag := "", pkgPath := "wireglass/wireglassref28",
          byteOffset := 16 },
        { name := "grave", type := 3, offset := 2, embedded := false, tag := "", pkgPath := "wireglass/wireglassref28",
          byteOffset := 32 }]) 3 40 (Value.agg #[Value.string { data := #[] }, Value.string { data := #[] }, Value.int IntKind.i64 0]) := ⟨Tryz.underlying168, Tryz.t168, rfl, rfl, rfl, rfl⟩
instance ty169 : Ty Tryz.prog 169 (TypeDesc.struct
      #[{ name := "group", type := 9, offset := 0, embedded := false, tag := "", pkgPath := "wireglass/wireglassref28",
          byteOffset := 0 },
        { name := "text", type := 9, offset := 1, embedded := false, tag := "", pkgPath := "wireglass/wireglassref28",
          byteOffset := 16 },
        { name := "grave", type := 3, offset := 2, embedded := false, tag := "", pkgPath := "wireglass/wireglassref28",
          byteOffset := 32 }]) 3 40 (Value.agg #[Value.string { data := #[] }, Value.string { data := #[] }, Value.int IntKind.i64 0]) := ⟨Tryz.underlying169, Tryz.t169, rfl, rfl, rfl, rfl⟩
instance ty170 : Ty Tryz.prog 170 (TypeDesc.tuple #[105, 39]) 1 0 (Value.tuple #[Value.slice none 0 0, Value.int IntKind.i64 0]) := ⟨Tryz.underlying170, Tryz.t170, rfl, rfl, rfl, rfl⟩
instance ty171 : Ty Tryz.prog 171 (TypeDesc.func #[62, 3] #[105, 39] false) 1 8 Value.nilFunc := ⟨Tryz.underlying171, Tryz.t171, rfl, rfl, rfl, rfl⟩
instance ty172 : Ty Tryz.prog 172 (TypeDesc.func #[62] #[86] false) 1 8 Value.nilFunc := ⟨Tryz.underlying172, Tryz.t172, rfl, rfl, rfl, rfl⟩
instance ty173 : Ty Tryz.prog 173 (TypeDesc.func #[9, 9, 3] #[4] false) 1 8 Value.nilFunc := ⟨Tryz.underlying173, Tryz.t173, rfl, rfl, rfl, rfl⟩
instance ty174 : Ty Tryz.prog 174 (TypeDesc.tuple #[3, 4]) 1 0 (Value.tuple #[Value.int IntKind.i64 0, Value.bool false]) := ⟨Tryz.underlying174, Tryz.t174, rfl, rfl, rfl, rfl⟩
instance ty175 : Ty Tryz.prog 175 (TypeDesc.func #[33] #[33] false) 1 8 Value.nilFunc := ⟨Tryz.underlying175, Tryz.t175, rfl, rfl, rfl, rfl⟩
instance ty176 : Ty Tryz.prog 176 (TypeDesc.func #[20] #[20] false) 1 8 Value.nilFunc := ⟨Tryz.underlying176, Tryz.t176, rfl, rfl, rfl, rfl⟩
instance ty177 : Ty Tryz.prog 177 (TypeDesc.slice 181) 1 24 (Value.slice none 0 0) := ⟨Tryz.underlying177, Tryz.t177, rfl, rfl, rfl, rfl⟩
instance ty178 : Ty Tryz.prog 178 (TypeDesc.tuple #[177, 3, 39]) 1 0 (Value.tuple #[Value.slice none 0 0, Value.int IntKind.i64 0, Value.int IntKind.i64 0]) := ⟨Tryz.underlying178, Tryz.t178, rfl, rfl, rfl, rfl⟩
instance ty179 : Ty Tryz.prog 179 (TypeDesc.func #[9] #[177, 3, 39] false) 1 8 Value.nilFunc := ⟨Tryz.underlying179, Tryz.t179, rfl, rfl, rfl, rfl⟩
instance ty180 : Ty Tryz.prog 180 (TypeDesc.struct
      #[{ name := "Kind", type := 3, offset := 0, embedded := false, tag := "", pkgPath := "", byteOffset := 0 },
        { name := "N", type := 3, offset := 1, embedded := false, tag := "", pkgPath := "", byteOffset := 8 },
        { name := "At", type := 3, offset := 2, embedded := false, tag := "", pkgPath := "", byteOffset := 16 },
        { name := "Text", type := 9, offset := 3, embedded := false, tag := "", pkgPath := "", byteOffset := 24 }]) 4 40 (Value.agg
        #[Value.int IntKind.i64 0, Value.int IntKind.i64 0, Value.int IntKind.i64 0, Value.string { data := #[] }]) := ⟨Tryz.underlying180, Tryz.t180, rfl, rfl, rfl, rfl⟩
instance ty181 : Ty Tryz.prog 181 (TypeDesc.struct
      #[{ name := "Kind", type := 3, offset := 0, embedded := false, tag := "", pkgPath := "", byteOffset := 0 },
        { name := "N", type := 3, offset := 1, embedded := false, tag := "", pkgPath := "", byteOffset := 8 },
        { name := "At", type := 3, offset := 2, embedded := false, tag := "", pkgPath := "", byteOffset := 16 },
        { name := "Text", type := 9, offset := 3, embedded := false, tag := "", pkgPath := "", byteOffset := 24 }]) 4 40 (Value.agg
        #[Value.int IntKind.i64 0, Value.int IntKind.i64 0, Value.int IntKind.i64 0, Value.string { data := #[] }]) := ⟨Tryz.underlying181, Tryz.t181, rfl, rfl, rfl, rfl⟩
instance ty182 : Ty Tryz.prog 182 (TypeDesc.func #[49, 183] #[4] false) 1 8 Value.nilFunc := ⟨Tryz.underlying182, Tryz.t182, rfl, rfl, rfl, rfl⟩
instance ty183 : Ty Tryz.prog 183 (TypeDesc.func #[5] #[4] false) 1 8 Value.nilFunc := ⟨Tryz.underlying183, Tryz.t183, rfl, rfl, rfl, rfl⟩
instance ty184 : Ty Tryz.prog 184 (TypeDesc.func #[185, 9] #[9] false) 1 8 Value.nilFunc := ⟨Tryz.underlying184, Tryz.t184, rfl, rfl, rfl, rfl⟩
instance ty185 : Ty Tryz.prog 185 (TypeDesc.slice 9) 1 24 (Value.slice none 0 0) := ⟨Tryz.underlying185, Tryz.t185, rfl, rfl, rfl, rfl⟩
instance ty186 : Ty Tryz.prog 186 (TypeDesc.pointer 5) 1 8 (Value.pointer none) := ⟨Tryz.underlying186, Tryz.t186, rfl, rfl, rfl, rfl⟩
instance ty187 : Ty Tryz.prog 187 (TypeDesc.tuple #[38, 4]) 1 0 (Value.tuple
        #[Value.agg
            #[Value.int IntKind.i64 0, Value.int IntKind.i64 0, Value.string { data := #[] },
              Value.string { data := #[] }, Value.string { data := #[] }, Value.int IntKind.i64 0,
              Value.int IntKind.i64 0],
          Value.bool false]) := ⟨Tryz.underlying187, Tryz.t187, rfl, rfl, rfl, rfl⟩
instance ty188 : Ty Tryz.prog 188 (TypeDesc.func #[62] #[38, 4] false) 1 8 Value.nilFunc := ⟨Tryz.underlying188, Tryz.t188, rfl, rfl, rfl, rfl⟩
instance ty189 : Ty Tryz.prog 189 (TypeDesc.func #[93, 3, 3, 101] #[] false) 1 8 Value.nilFunc := ⟨Tryz.underlying189, Tryz.t189, rfl, rfl, rfl, rfl⟩
instance ty190 : Ty Tryz.prog 190 (TypeDesc.int IntKind.i64) 1 8 (Value.int IntKind.i64 0) := ⟨Tryz.underlying190, Tryz.t190, rfl, rfl, rfl, rfl⟩
instance ty191 : Ty Tryz.prog 191 (TypeDesc.tuple #[3, 190]) 1 0 (Value.tuple #[Value.int IntKind.i64 0, Value.int IntKind.i64 0]) := ⟨Tryz.underlying191, Tryz.t191, rfl, rfl, rfl, rfl⟩
instance ty192 : Ty Tryz.prog 192 (TypeDesc.func #[93, 3, 3, 101] #[3, 190] false) 1 8 Value.nilFunc := ⟨Tryz.underlying192, Tryz.t192, rfl, rfl, rfl, rfl⟩
instance ty193 : Ty Tryz.prog 193 (TypeDesc.func #[93, 3, 3, 101] #[4] false) 1 8 Value.nilFunc := ⟨Tryz.underlying193, Tryz.t193, rfl, rfl, rfl, rfl⟩
instance ty194 : Ty Tryz.prog 194 (TypeDesc.func #[93, 3, 3, 3, 101] #[3] false) 1 8 Value.nilFunc := ⟨Tryz.underlying194, Tryz.t194, rfl, rfl, rfl, rfl⟩
instance ty195 : Ty Tryz.prog 195 (TypeDesc.func #[93, 3, 3, 3, 101] #[3, 4] false) 1 8 Value.nilFunc := ⟨Tryz.underlying195, Tryz.t195, rfl, rfl, rfl, rfl⟩
instance ty196 : Ty Tryz.prog 196 (TypeDesc.func #[79] #[3] false) 1 8 Value.nilFunc := ⟨Tryz.underlying196, Tryz.t196, rfl, rfl, rfl, rfl⟩
instance ty197 : Ty Tryz.prog 197 (TypeDesc.func #[198] #[3] false) 1 8 Value.nilFunc := ⟨Tryz.underlying197, Tryz.t197, rfl, rfl, rfl, rfl⟩
instance ty198 : Ty Tryz.prog 198 (TypeDesc.int IntKind.u64) 1 8 (Value.int IntKind.u64 0) := ⟨Tryz.underlying198, Tryz.t198, rfl, rfl, rfl, rfl⟩
instance ty199 : Ty Tryz.prog 199 (TypeDesc.slice 3) 1 24 (Value.slice none 0 0) := ⟨Tryz.underlying199, Tryz.t199, rfl, rfl, rfl, rfl⟩
instance ty200 : Ty Tryz.prog 200 (TypeDesc.func #[2, 3] #[9] false) 1 8 Value.nilFunc := ⟨Tryz.underlying200, Tryz.t200, rfl, rfl, rfl, rfl⟩
instance ty201 : Ty Tryz.prog 201 (TypeDesc.func #[33, 3] #[33] false) 1 8 Value.nilFunc := ⟨Tryz.underlying201, Tryz.t201, rfl, rfl, rfl, rfl⟩
instance ty202 : Ty Tryz.prog 202 (TypeDesc.func #[9] #[9] false) 1 8 Value.nilFunc := ⟨Tryz.underlying202, Tryz.t202, rfl, rfl, rfl, rfl⟩
instance ty203 : Ty Tryz.prog 203 (TypeDesc.pointer 81) 1 8 (Value.pointer none) := ⟨Tryz.underlying203, Tryz.t203, rfl, rfl, rfl, rfl⟩
instance ty204 : Ty Tryz.prog 204 (TypeDesc.func #[205, 21, 21] #[4] false) 1 8 Value.nilFunc := ⟨Tryz.underlying204, Tryz.t204, rfl, rfl, rfl, rfl⟩
instance ty205 : Ty Tryz.prog 205 (TypeDesc.pointer 21) 1 8 (Value.pointer none) := ⟨Tryz.underlying205, Tryz.t205, rfl, rfl, rfl, rfl⟩
instance ty206 : Ty Tryz.prog 206 (TypeDesc.func #[207] #[] false) 1 8 Value.nilFunc := ⟨Tryz.underlying206, Tryz.t206, rfl, rfl, rfl, rfl⟩
instance ty207 : Ty Tryz.prog 207 TypeDesc.unsafePointer 1 8 (Value.pointer none) := ⟨Tryz.underlying207, Tryz.t207, rfl, rfl, rfl, rfl⟩
instance ty208 : Ty Tryz.prog 208 (TypeDesc.func #[205, 21] #[21] false) 1 8 Value.nilFunc := ⟨Tryz.underlying208, Tryz.t208, rfl, rfl, rfl, rfl⟩
instance ty209 : Ty Tryz.prog 209 (TypeDesc.func #[21] #[] false) 1 8 Value.nilFunc := ⟨Tryz.underlying209, Tryz.t209, rfl, rfl, rfl, rfl⟩
instance ty210 : Ty Tryz.prog 210 (TypeDesc.func #[62] #[3] false) 1 8 Value.nilFunc := ⟨Tryz.underlying210, Tryz.t210, rfl, rfl, rfl, rfl⟩
instance ty211 : Ty Tryz.prog 211 (TypeDesc.func #[105, 62, 9] #[105] false) 1 8 Value.nilFunc := ⟨Tryz.underlying211, Tryz.t211, rfl, rfl, rfl, rfl⟩
instance ty212 : Ty Tryz.prog 212 (TypeDesc.func #[9, 3] #[3] false) 1 8 Value.nilFunc := ⟨Tryz.underlying212, Tryz.t212, rfl, rfl, rfl, rfl⟩
instance ty213 : Ty Tryz.prog 213 (TypeDesc.func #[245] #[] false) 1 8 Value.nilFunc := ⟨Tryz.underlying213, Tryz.t213, rfl, rfl, rfl, rfl⟩
instance ty214 : Ty Tryz.prog 214 (TypeDesc.func #[245] #[] false) 1 8 Value.nilFunc := ⟨Tryz.underlying214, Tryz.t214, rfl, rfl, rfl, rfl⟩
instance ty215 : Ty Tryz.prog 215 (TypeDesc.pointer 244) 1 8 (Value.pointer none) := ⟨Tryz.underlying215, Tryz.t215, rfl, rfl, rfl, rfl⟩
instance ty216 : Ty Tryz.prog 216 (TypeDesc.func #[9] #[215] false) 1 8 Value.nilFunc := ⟨Tryz.underlying216, Tryz.t216, rfl, rfl, rfl, rfl⟩
instance ty217 : Ty Tryz.prog 217 (TypeDesc.func #[] #[214] false) 1 8 Value.nilFunc := ⟨Tryz.underlying217, Tryz.t217, rfl, rfl, rfl, rfl⟩
instance ty218 : Ty Tryz.prog 218 (TypeDesc.func #[49, 183] #[3] false) 1 8 Value.nilFunc := ⟨Tryz.underlying218, Tryz.t218, rfl, rfl, rfl, rfl⟩
instance ty219 : Ty Tryz.prog 219 (TypeDesc.pointer 138) 1 8 (Value.pointer none) := ⟨Tryz.underlying219, Tryz.t219, rfl, rfl, rfl, rfl⟩
instance ty220 : Ty Tryz.prog 220 (TypeDesc.func #[221] #[79] false) 1 8 Value.nilFunc := ⟨Tryz.underlying220, Tryz.t220, rfl, rfl, rfl, rfl⟩
instance ty221 : Ty Tryz.prog 221 (TypeDesc.pointer 79) 1 8 (Value.pointer none) := ⟨Tryz.underlying221, Tryz.t221, rfl, rfl, rfl, rfl⟩
instance ty222 : Ty Tryz.prog 222 (TypeDesc.func #[4] #[] false) 1 8 Value.nilFunc := ⟨Tryz.underlying222, Tryz.t222, rfl, rfl, rfl, rfl⟩
instance ty223 : Ty Tryz.prog 223 (TypeDesc.func #[207] #[207] false) 1 8 Value.nilFunc := ⟨Tryz.underlying223, Tryz.t223, rfl, rfl, rfl, rfl⟩
instance ty224 : Ty Tryz.prog 224 (TypeDesc.func #[3] #[] false) 1 8 Value.nilFunc := ⟨Tryz.underlying224, Tryz.t224, rfl, rfl, rfl, rfl⟩
instance ty225 : Ty Tryz.prog 225 (TypeDesc.int IntKind.u64) 1 8 (Value.int IntKind.u64 0) := ⟨Tryz.underlying225, Tryz.t225, rfl, rfl, rfl, rfl⟩
instance ty226 : Ty Tryz.prog 226 (TypeDesc.func #[3] #[154] false) 1 8 Value.nilFunc := ⟨Tryz.underlying226, Tryz.t226, rfl, rfl, rfl, rfl⟩
instance ty227 : Ty Tryz.prog 227 (TypeDesc.func #[] #[198] false) 1 8 Value.nilFunc := ⟨Tryz.underlying227, Tryz.t227, rfl, rfl, rfl, rfl⟩
instance ty228 : Ty Tryz.prog 228 (TypeDesc.func #[93, 3, 229, 101] #[3] false) 1 8 Value.nilFunc := ⟨Tryz.underlying228, Tryz.t228, rfl, rfl, rfl, rfl⟩
instance ty229 : Ty Tryz.prog 229 (TypeDesc.pointer 3) 1 8 (Value.pointer none) := ⟨Tryz.underlying229, Tryz.t229, rfl, rfl, rfl, rfl⟩
instance ty230 : Ty Tryz.prog 230 (TypeDesc.func #[93, 3, 3, 3, 229, 101] #[3] false) 1 8 Value.nilFunc := ⟨Tryz.underlying230, Tryz.t230, rfl, rfl, rfl, rfl⟩
instance ty231 : Ty Tryz.prog 231 (TypeDesc.array 24 5) 24 24 (Value.agg
        #[Value.int IntKind.u8 0, Value.int IntKind.u8 0, Value.int IntKind.u8 0, Value.int IntKind.u8 0,
          Value.int IntKind.u8 0, Value.int IntKind.u8 0, Value.int IntKind.u8 0, Value.int IntKind.u8 0,
          Value.int IntKind.u8 0, Value.int IntKind.u8 0, Value.int IntKind.u8 0, Value.int IntKind.u8 0,
          Value.int IntKind.u8 0, Value.int IntKind.u8 0, Value.int IntKind.u8 0, Value.int IntKind.u8 0,
          Value.int IntKind.u8 0, Value.int IntKind.u8 0, Value.int IntKind.u8 0, Value.int IntKind.u8 0,
          Value.int IntKind.u8 0, Value.int IntKind.u8 0, Value.int IntKind.u8 0, Value.int IntKind.u8 0]) := ⟨Tryz.underlying231, Tryz.t231, rfl, rfl, rfl, rfl⟩
instance ty232 : Ty Tryz.prog 232 (TypeDesc.func #[49, 198] #[] false) 1 8 Value.nilFunc := ⟨Tryz.underlying232, Tryz.t232, rfl, rfl, rfl, rfl⟩
instance ty233 : Ty Tryz.prog 233 (TypeDesc.tuple #[49, 9]) 1 0 (Value.tuple #[Value.slice none 0 0, Value.string { data := #[] }]) := ⟨Tryz.underlying233, Tryz.t233, rfl, rfl, rfl, rfl⟩
instance ty234 : Ty Tryz.prog 234 (TypeDesc.func #[49, 198, 3, 4, 4] #[49, 9] false) 1 8 Value.nilFunc := ⟨Tryz.underlying234, Tryz.t234, rfl, rfl, rfl, rfl⟩
instance ty235 : Ty Tryz.prog 235 (TypeDesc.func #[9] #[] false) 1 8 Value.nilFunc := ⟨Tryz.underlying235, Tryz.t235, rfl, rfl, rfl, rfl⟩
instance ty236 : Ty Tryz.prog 236 (TypeDesc.func #[] #[2] false) 1 8 Value.nilFunc := ⟨Tryz.underlying236, Tryz.t236, rfl, rfl, rfl, rfl⟩
instance ty237 : Ty Tryz.prog 237 (TypeDesc.func #[221, 4, 3] #[] false) 1 8 Value.nilFunc := ⟨Tryz.underlying237, Tryz.t237, rfl, rfl, rfl, rfl⟩
instance ty238 : Ty Tryz.prog 238 (TypeDesc.func #[105, 116] #[105] false) 1 8 Value.nilFunc := ⟨Tryz.underlying238, Tryz.t238, rfl, rfl, rfl, rfl⟩
instance ty239 : Ty Tryz.prog 239 (TypeDesc.func #[9, 3] #[5] false) 1 8 Value.nilFunc := ⟨Tryz.underlying239, Tryz.t239, rfl, rfl, rfl, rfl⟩
instance ty240 : Ty Tryz.prog 240 (TypeDesc.array 256 3) 256 2048 (Value.agg Tryz.zeroCells240) := ⟨Tryz.underlying240, Tryz.t240, rfl, rfl, rfl, rfl⟩
instance ty241 : Ty Tryz.prog 241 (TypeDesc.func #[] #[240] false) 1 8 Value.nilFunc := ⟨Tryz.underlying241, Tryz.t241, rfl, rfl, rfl, rfl⟩
instance ty242 : Ty Tryz.prog 242 (TypeDesc.func #[] #[185] false) 1 8 Value.nilFunc := ⟨Tryz.underlying242, Tryz.t242, rfl, rfl, rfl, rfl⟩
instance ty243 : Ty Tryz.prog 243 (TypeDesc.struct
      #[{ name := "s", type := 9, offset := 0, embedded := false, tag := "", pkgPath := "wireglass/lex",
          byteOffset := 0 },
        { name := "at", type := 3, offset := 1, embedded := false, tag := "", pkgPath := "wireglass/lex",
          byteOffset := 16 },
        { name := "class", type := 240, offset := 2, embedded := false, tag := "", pkgPath := "wireglass/lex",
          byteOffset := 24 },
        { name := "signs", type := 185, offset := 258, embedded := false, tag := "", pkgPath := "wireglass/lex",
          byteOffset := 2072 }]) 259 2096 (Value.agg Tryz.zeroCells243) := ⟨Tryz.underlying243, Tryz.t243, rfl, rfl, rfl, rfl⟩
instance ty244 : Ty Tryz.prog 244 (TypeDesc.struct
      #[{ name := "s", type := 9, offset := 0, embedded := false, tag := "", pkgPath := "wireglass/lex",
          byteOffset := 0 },
        { name := "at", type := 3, offset := 1, embedded := false, tag := "", pkgPath := "wireglass/lex",
          byteOffset := 16 },
        { name := "class", type := 240, offset := 2, embedded := false, tag := "", pkgPath := "wireglass/lex",
          byteOffset := 24 },
        { name := "signs", type := 185, offset := 258, embedded := false, tag := "", pkgPath := "wireglass/lex",
          byteOffset := 2072 }]) 259 2096 (Value.agg Tryz.zeroCells244) := ⟨Tryz.underlying244, Tryz.t244, rfl, rfl, rfl, rfl⟩
instance ty245 : Ty Tryz.prog 245 (TypeDesc.func #[181, 4] #[4] false) 1 8 Value.nilFunc := ⟨Tryz.underlying245, Tryz.t245, rfl, rfl, rfl, rfl⟩
instance ty246 : Ty Tryz.prog 246 (TypeDesc.tuple #[181, 4]) 1 0 (Value.tuple
        #[Value.agg
            #[Value.int IntKind.i64 0, Value.int IntKind.i64 0, Value.int IntKind.i64 0, Value.string { data := #[] }],
          Value.bool false]) := ⟨Tryz.underlying246, Tryz.t246, rfl, rfl, rfl, rfl⟩
instance ty247 : Ty Tryz.prog 247 (TypeDesc.func #[] #[181, 4] false) 1 8 Value.nilFunc := ⟨Tryz.underlying247, Tryz.t247, rfl, rfl, rfl, rfl⟩
instance ty248 : Ty Tryz.prog 248 (TypeDesc.func #[221, 79] #[] false) 1 8 Value.nilFunc := ⟨Tryz.underlying248, Tryz.t248, rfl, rfl, rfl, rfl⟩
instance ty249 : Ty Tryz.prog 249 (TypeDesc.func #[4] #[79] false) 1 8 Value.nilFunc := ⟨Tryz.underlying249, Tryz.t249, rfl, rfl, rfl, rfl⟩
instance ty250 : Ty Tryz.prog 250 (TypeDesc.func #[5] #[146] false) 1 8 Value.nilFunc := ⟨Tryz.underlying250, Tryz.t250, rfl, rfl, rfl, rfl⟩
instance ty251 : Ty Tryz.prog 251 (TypeDesc.func #[5] #[9] false) 1 8 Value.nilFunc := ⟨Tryz.underlying251, Tryz.t251, rfl, rfl, rfl, rfl⟩
instance ty252 : Ty Tryz.prog 252 (TypeDesc.pointer 225) 1 8 (Value.pointer none) := ⟨Tryz.underlying252, Tryz.t252, rfl, rfl, rfl, rfl⟩
instance ty253 : Ty Tryz.prog 253 (TypeDesc.tuple #[3, 3]) 1 0 (Value.tuple #[Value.int IntKind.i64 0, Value.int IntKind.i64 0]) := ⟨Tryz.underlying253, Tryz.t253, rfl, rfl, rfl, rfl⟩
instance ty254 : Ty Tryz.prog 254 (TypeDesc.func #[93, 3, 3, 229, 101] #[3, 3] false) 1 8 Value.nilFunc := ⟨Tryz.underlying254, Tryz.t254, rfl, rfl, rfl, rfl⟩
instance ty255 : Ty Tryz.prog 255 (TypeDesc.func #[3] #[3] false) 1 8 Value.nilFunc := ⟨Tryz.underlying255, Tryz.t255, rfl, rfl, rfl, rfl⟩
instance ty256 : Ty Tryz.prog 256 (TypeDesc.func #[4] #[3] false) 1 8 Value.nilFunc := ⟨Tryz.underlying256, Tryz.t256, rfl, rfl, rfl, rfl⟩
instance ty257 : Ty Tryz.prog 257 (TypeDesc.array 20 198) 20 160 (Value.agg
        #[Value.int IntKind.u64 0, Value.int IntKind.u64 0, Value.int IntKind.u64 0, Value.int IntKind.u64 0,
          Value.int IntKind.u64 0, Value.int IntKind.u64 0, Value.int IntKind.u64 0, Value.int IntKind.u64 0,
          Value.int IntKind.u64 0, Value.int IntKind.u64 0, Value.int IntKind.u64 0, Value.int IntKind.u64 0,
          Value.int IntKind.u64 0, Value.int IntKind.u64 0, Value.int IntKind.u64 0, Value.int IntKind.u64 0,
          Value.int IntKind.u64 0, Value.int IntKind.u64 0, Value.int IntKind.u64 0, Value.int IntKind.u64 0]) := ⟨Tryz.underlying257, Tryz.t257, rfl, rfl, rfl, rfl⟩
instance ty258 : Ty Tryz.prog 258 (TypeDesc.array 65 5) 65 65 (Value.agg Tryz.zeroCells258) := ⟨Tryz.underlying258, Tryz.t258, rfl, rfl, rfl, rfl⟩
instance ty259 : Ty Tryz.prog 259 (TypeDesc.func #[116, 116] #[4] false) 1 8 Value.nilFunc := ⟨Tryz.underlying259, Tryz.t259, rfl, rfl, rfl, rfl⟩
instance ty260 : Ty Tryz.prog 260 (TypeDesc.func #[9] #[185] false) 1 8 Value.nilFunc := ⟨Tryz.underlying260, Tryz.t260, rfl, rfl, rfl, rfl⟩
instance ty261 : Ty Tryz.prog 261 (TypeDesc.func #[3, 199] #[3] true) 1 8 Value.nilFunc := ⟨Tryz.underlying261, Tryz.t261, rfl, rfl, rfl, rfl⟩
instance ty262 : Ty Tryz.prog 262 (TypeDesc.func #[9, 9] #[4] false) 1 8 Value.nilFunc := ⟨Tryz.underlying262, Tryz.t262, rfl, rfl, rfl, rfl⟩
instance ty263 : Ty Tryz.prog 263 (TypeDesc.func #[3, 199] #[4] true) 1 8 Value.nilFunc := ⟨Tryz.underlying263, Tryz.t263, rfl, rfl, rfl, rfl⟩
instance ty264 : Ty Tryz.prog 264 (TypeDesc.func #[3] #[49] false) 1 8 Value.nilFunc := ⟨Tryz.underlying264, Tryz.t264, rfl, rfl, rfl, rfl⟩
instance ty265 : Ty Tryz.prog 265 (TypeDesc.array 256 5) 256 256 (Value.agg Tryz.zeroCells265) := ⟨Tryz.underlying265, Tryz.t265, rfl, rfl, rfl, rfl⟩
instance ty266 : Ty Tryz.prog 266 (TypeDesc.func #[9, 267] #[185] false) 1 8 Value.nilFunc := ⟨Tryz.underlying266, Tryz.t266, rfl, rfl, rfl, rfl⟩
instance ty267 : Ty Tryz.prog 267 (TypeDesc.func #[21] #[4] false) 1 8 Value.nilFunc := ⟨Tryz.underlying267, Tryz.t267, rfl, rfl, rfl, rfl⟩
instance ty268 : Ty Tryz.prog 268 (TypeDesc.func #[199, 3] #[4] false) 1 8 Value.nilFunc := ⟨Tryz.underlying268, Tryz.t268, rfl, rfl, rfl, rfl⟩
instance ty269 : Ty Tryz.prog 269 (TypeDesc.func #[5] #[3] false) 1 8 Value.nilFunc := ⟨Tryz.underlying269, Tryz.t269, rfl, rfl, rfl, rfl⟩
instance ty270 : Ty Tryz.prog 270 (TypeDesc.func #[9, 3] #[3, 4] false) 1 8 Value.nilFunc := ⟨Tryz.underlying270, Tryz.t270, rfl, rfl, rfl, rfl⟩
instance ty271 : Ty Tryz.prog 271 (TypeDesc.tuple #[5, 4]) 1 0 (Value.tuple #[Value.int IntKind.u8 0, Value.bool false]) := ⟨Tryz.underlying271, Tryz.t271, rfl, rfl, rfl, rfl⟩
instance ty272 : Ty Tryz.prog 272 (TypeDesc.func #[] #[5, 4] false) 1 8 Value.nilFunc := ⟨Tryz.underlying272, Tryz.t272, rfl, rfl, rfl, rfl⟩
instance ty273 : Ty Tryz.prog 273 (TypeDesc.array 32 5) 32 32 (Value.agg
        #[Value.int IntKind.u8 0, Value.int IntKind.u8 0, Value.int IntKind.u8 0, Value.int IntKind.u8 0,
          Value.int IntKind.u8 0, Value.int IntKind.u8 0, Value.int IntKind.u8 0, Value.int IntKind.u8 0,
          Value.int IntKind.u8 0, Value.int IntKind.u8 0, Value.int IntKind.u8 0, Value.int IntKind.u8 0,
          Value.int IntKind.u8 0, Value.int IntKind.u8 0, Value.int IntKind.u8 0, Value.int IntKind.u8 0,
          Value.int IntKind.u8 0, Value.int IntKind.u8 0, Value.int IntKind.u8 0, Value.int IntKind.u8 0,
          Value.int IntKind.u8 0, Value.int IntKind.u8 0, Value.int IntKind.u8 0, Value.int IntKind.u8 0,
          Value.int IntKind.u8 0, Value.int IntKind.u8 0, Value.int IntKind.u8 0, Value.int IntKind.u8 0,
          Value.int IntKind.u8 0, Value.int IntKind.u8 0, Value.int IntKind.u8 0, Value.int IntKind.u8 0]) := ⟨Tryz.underlying273, Tryz.t273, rfl, rfl, rfl, rfl⟩
instance ty274 : Ty Tryz.prog 274 (TypeDesc.array 64 5) 64 64 (Value.agg
        #[Value.int IntKind.u8 0, Value.int IntKind.u8 0, Value.int IntKind.u8 0, Value.int IntKind.u8 0,
          Value.int IntKind.u8 0, Value.int IntKind.u8 0, Value.int IntKind.u8 0, Value.int IntKind.u8 0,
          Value.int IntKind.u8 0, Value.int IntKind.u8 0, Value.int IntKind.u8 0, Value.int IntKind.u8 0,
          Value.int IntKind.u8 0, Value.int IntKind.u8 0, Value.int IntKind.u8 0, Value.int IntKind.u8 0,
          Value.int IntKind.u8 0, Value.int IntKind.u8 0, Value.int IntKind.u8 0, Value.int IntKind.u8 0,
          Value.int IntKind.u8 0, Value.int IntKind.u8 0, Value.int IntKind.u8 0, Value.int IntKind.u8 0,
          Value.int IntKind.u8 0, Value.int IntKind.u8 0, Value.int IntKind.u8 0, Value.int IntKind.u8 0,
          Value.int IntKind.u8 0, Value.int IntKind.u8 0, Value.int IntKind.u8 0, Value.int IntKind.u8 0,
          Value.int IntKind.u8 0, Value.int IntKind.u8 0, Value.int IntKind.u8 0, Value.int IntKind.u8 0,
          Value.int IntKind.u8 0, Value.int IntKind.u8 0, Value.int IntKind.u8 0, Value.int IntKind.u8 0,
          Value.int IntKind.u8 0, Value.int IntKind.u8 0, Value.int IntKind.u8 0, Value.int IntKind.u8 0,
          Value.int IntKind.u8 0, Value.int IntKind.u8 0, Value.int IntKind.u8 0, Value.int IntKind.u8 0,
          Value.int IntKind.u8 0, Value.int IntKind.u8 0, Value.int IntKind.u8 0, Value.int IntKind.u8 0,
          Value.int IntKind.u8 0, Value.int IntKind.u8 0, Value.int IntKind.u8 0, Value.int IntKind.u8 0,
          Value.int IntKind.u8 0, Value.int IntKind.u8 0, Value.int IntKind.u8 0, Value.int IntKind.u8 0,
          Value.int IntKind.u8 0, Value.int IntKind.u8 0, Value.int IntKind.u8 0, Value.int IntKind.u8 0]) := ⟨Tryz.underlying274, Tryz.t274, rfl, rfl, rfl, rfl⟩
instance ty275 : Ty Tryz.prog 275 (TypeDesc.slice 277) 1 24 (Value.slice none 0 0) := ⟨Tryz.underlying275, Tryz.t275, rfl, rfl, rfl, rfl⟩
instance ty276 : Ty Tryz.prog 276 (TypeDesc.struct
      #[{ name := "start", type := 3, offset := 0, embedded := false, tag := "", pkgPath := "strings",
          byteOffset := 0 },
        { name := "end", type := 3, offset := 1, embedded := false, tag := "", pkgPath := "strings", byteOffset := 8 }]) 2 16 (Value.agg #[Value.int IntKind.i64 0, Value.int IntKind.i64 0]) := ⟨Tryz.underlying276, Tryz.t276, rfl, rfl, rfl, rfl⟩
instance ty277 : Ty Tryz.prog 277 (TypeDesc.struct
      #[{ name := "start", type := 3, offset := 0, embedded := false, tag := "", pkgPath := "strings",
          byteOffset := 0 },
        { name := "end", type := 3, offset := 1, embedded := false, tag := "", pkgPath := "strings", byteOffset := 8 }]) 2 16 (Value.agg #[Value.int IntKind.i64 0, Value.int IntKind.i64 0]) := ⟨Tryz.underlying277, Tryz.t277, rfl, rfl, rfl, rfl⟩
instance ty278 : Ty Tryz.prog 278 (TypeDesc.func #[279, 21] #[4] false) 1 8 Value.nilFunc := ⟨Tryz.underlying278, Tryz.t278, rfl, rfl, rfl, rfl⟩
instance ty279 : Ty Tryz.prog 279 (TypeDesc.pointer 284) 1 8 (Value.pointer none) := ⟨Tryz.underlying279, Tryz.t279, rfl, rfl, rfl, rfl⟩
instance ty280 : Ty Tryz.prog 280 (TypeDesc.func #[199, 3] #[3] false) 1 8 Value.nilFunc := ⟨Tryz.underlying280, Tryz.t280, rfl, rfl, rfl, rfl⟩
instance ty281 : Ty Tryz.prog 281 (TypeDesc.slice 287) 1 24 (Value.slice none 0 0) := ⟨Tryz.underlying281, Tryz.t281, rfl, rfl, rfl, rfl⟩
instance ty282 : Ty Tryz.prog 282 (TypeDesc.slice 290) 1 24 (Value.slice none 0 0) := ⟨Tryz.underlying282, Tryz.t282, rfl, rfl, rfl, rfl⟩
instance ty283 : Ty Tryz.prog 283 (TypeDesc.struct
      #[{ name := "R16", type := 281, offset := 0, embedded := false, tag := "", pkgPath := "", byteOffset := 0 },
        { name := "R32", type := 282, offset := 1, embedded := false, tag := "", pkgPath := "", byteOffset := 24 },
        { name := "LatinOffset", type := 3, offset := 2, embedded := false, tag := "", pkgPath := "",
          byteOffset := 48 }]) 3 56 (Value.agg #[Value.slice none 0 0, Value.slice none 0 0, Value.int IntKind.i64 0]) := ⟨Tryz.underlying283, Tryz.t283, rfl, rfl, rfl, rfl⟩
instance ty284 : Ty Tryz.prog 284 (TypeDesc.struct
      #[{ name := "R16", type := 281, offset := 0, embedded := false, tag := "", pkgPath := "", byteOffset := 0 },
        { name := "R32", type := 282, offset := 1, embedded := false, tag := "", pkgPath := "", byteOffset := 24 },
        { name := "LatinOffset", type := 3, offset := 2, embedded := false, tag := "", pkgPath := "",
          byteOffset := 48 }]) 3 56 (Value.agg #[Value.slice none 0 0, Value.slice none 0 0, Value.int IntKind.i64 0]) := ⟨Tryz.underlying284, Tryz.t284, rfl, rfl, rfl, rfl⟩
instance ty285 : Ty Tryz.prog 285 (TypeDesc.int IntKind.u16) 1 2 (Value.int IntKind.u16 0) := ⟨Tryz.underlying285, Tryz.t285, rfl, rfl, rfl, rfl⟩
instance ty286 : Ty Tryz.prog 286 (TypeDesc.struct
      #[{ name := "Lo", type := 285, offset := 0, embedded := false, tag := "", pkgPath := "", byteOffset := 0 },
        { name := "Hi", type := 285, offset := 1, embedded := false, tag := "", pkgPath := "", byteOffset := 2 },
        { name := "Stride", type := 285, offset := 2, embedded := false, tag := "", pkgPath := "", byteOffset := 4 }]) 3 6 (Value.agg #[Value.int IntKind.u16 0, Value.int IntKind.u16 0, Value.int IntKind.u16 0]) := ⟨Tryz.underlying286, Tryz.t286, rfl, rfl, rfl, rfl⟩
instance ty287 : Ty Tryz.prog 287 (TypeDesc.struct
      #[{ name := "Lo", type := 285, offset := 0, embedded := false, tag := "", pkgPath := "", byteOffset := 0 },
        { name := "Hi", type := 285, offset := 1, embedded := false, tag := "", pkgPath := "", byteOffset := 2 },
        { name := "Stride", type := 285, offset := 2, embedded := false, tag := "", pkgPath := "", byteOffset := 4 }]) 3 6 (Value.agg #[Value.int IntKind.u16 0, Value.int IntKind.u16 0, Value.int IntKind.u16 0]) := ⟨Tryz.underlying287, Tryz.t287, rfl, rfl, rfl, rfl⟩
instance ty288 : Ty Tryz.prog 288 (TypeDesc.func #[281, 285] #[4] false) 1 8 Value.nilFunc := ⟨Tryz.underlying288, Tryz.t288, rfl, rfl, rfl, rfl⟩
instance ty289 : Ty Tryz.prog 289 (TypeDesc.struct
      #[{ name := "Lo", type := 79, offset := 0, embedded := false, tag := "", pkgPath := "", byteOffset := 0 },
        { name := "Hi", type := 79, offset := 1, embedded := false, tag := "", pkgPath := "", byteOffset := 4 },
        { name := "Stride", type := 79, offset := 2, embedded := false, tag := "", pkgPath := "", byteOffset := 8 }]) 3 12 (Value.agg #[Value.int IntKind.u32 0, Value.int IntKind.u32 0, Value.int IntKind.u32 0]) := ⟨Tryz.underlying289, Tryz.t289, rfl, rfl, rfl, rfl⟩
instance ty290 : Ty Tryz.prog 290 (TypeDesc.struct
      #[{ name := "Lo", type := 79, offset := 0, embedded := false, tag := "", pkgPath := "", byteOffset := 0 },
        { name := "Hi", type := 79, offset := 1, embedded := false, tag := "", pkgPath := "", byteOffset := 4 },
        { name := "Stride", type := 79, offset := 2, embedded := false, tag := "", pkgPath := "", byteOffset := 8 }]) 3 12 (Value.agg #[Value.int IntKind.u32 0, Value.int IntKind.u32 0, Value.int IntKind.u32 0]) := ⟨Tryz.underlying290, Tryz.t290, rfl, rfl, rfl, rfl⟩
instance ty291 : Ty Tryz.prog 291 (TypeDesc.func #[282, 79] #[4] false) 1 8 Value.nilFunc := ⟨Tryz.underlying291, Tryz.t291, rfl, rfl, rfl, rfl⟩
instance ty292 : Ty Tryz.prog 292 (TypeDesc.pointer 287) 1 8 (Value.pointer none) := ⟨Tryz.underlying292, Tryz.t292, rfl, rfl, rfl, rfl⟩
instance ty293 : Ty Tryz.prog 293 (TypeDesc.pointer 290) 1 8 (Value.pointer none) := ⟨Tryz.underlying293, Tryz.t293, rfl, rfl, rfl, rfl⟩
instance ty294 : Ty Tryz.prog 294 (TypeDesc.struct
      #[{ name := "_interface", type := 17, offset := 0, embedded := false, tag := "", pkgPath := "runtime",
          byteOffset := 0 },
        { name := "concrete", type := 17, offset := 1, embedded := false, tag := "", pkgPath := "runtime",
          byteOffset := 8 },
        { name := "asserted", type := 17, offset := 2, embedded := false, tag := "", pkgPath := "runtime",
          byteOffset := 16 },
        { name := "missingMethod", type := 9, offset := 3, embedded := false, tag := "", pkgPath := "runtime",
          byteOffset := 24 }]) 4 40 (Value.agg #[Value.pointer none, Value.pointer none, Value.pointer none, Value.string { data := #[] }]) := ⟨Tryz.underlying294, Tryz.t294, rfl, rfl, rfl, rfl⟩
instance ty295 : Ty Tryz.prog 295 (TypeDesc.struct
      #[{ name := "_interface", type := 17, offset := 0, embedded := false, tag := "", pkgPath := "runtime",
          byteOffset := 0 },
        { name := "concrete", type := 17, offset := 1, embedded := false, tag := "", pkgPath := "runtime",
          byteOffset := 8 },
        { name := "asserted", type := 17, offset := 2, embedded := false, tag := "", pkgPath := "runtime",
          byteOffset := 16 },
        { name := "missingMethod", type := 9, offset := 3, embedded := false, tag := "", pkgPath := "runtime",
          byteOffset := 24 }]) 4 40 (Value.agg #[Value.pointer none, Value.pointer none, Value.pointer none, Value.string { data := #[] }]) := ⟨Tryz.underlying295, Tryz.t295, rfl, rfl, rfl, rfl⟩
instance ty296 : Ty Tryz.prog 296 (TypeDesc.array 0 16) 0 0 (Value.agg #[]) := ⟨Tryz.underlying296, Tryz.t296, rfl, rfl, rfl, rfl⟩
instance ty297 : Ty Tryz.prog 297 (TypeDesc.struct
      #[{ name := "_", type := 296, offset := 0, embedded := false, tag := "", pkgPath := "runtime", byteOffset := 0 }]) 0 0 (Value.agg #[]) := ⟨Tryz.underlying297, Tryz.t297, rfl, rfl, rfl, rfl⟩
instance ty298 : Ty Tryz.prog 298 (TypeDesc.struct
      #[{ name := "_", type := 296, offset := 0, embedded := false, tag := "", pkgPath := "runtime", byteOffset := 0 }]) 0 0 (Value.agg #[]) := ⟨Tryz.underlying298, Tryz.t298, rfl, rfl, rfl, rfl⟩
instance ty299 : Ty Tryz.prog 299 (TypeDesc.int IntKind.u8) 1 1 (Value.int IntKind.u8 0) := ⟨Tryz.underlying299, Tryz.t299, rfl, rfl, rfl, rfl⟩
instance ty300 : Ty Tryz.prog 300 (TypeDesc.int IntKind.u8) 1 1 (Value.int IntKind.u8 0) := ⟨Tryz.underlying300, Tryz.t300, rfl, rfl, rfl, rfl⟩
instance ty301 : Ty Tryz.prog 301 (TypeDesc.func #[207, 207] #[4] false) 1 8 Value.nilFunc := ⟨Tryz.underlying301, Tryz.t301, rfl, rfl, rfl, rfl⟩
instance ty302 : Ty Tryz.prog 302 (TypeDesc.int IntKind.i32) 1 4 (Value.int IntKind.i32 0) := ⟨Tryz.underlying302, Tryz.t302, rfl, rfl, rfl, rfl⟩
instance ty303 : Ty Tryz.prog 303 (TypeDesc.int IntKind.i32) 1 4 (Value.int IntKind.i32 0) := ⟨Tryz.underlying303, Tryz.t303, rfl, rfl, rfl, rfl⟩
instance ty304 : Ty Tryz.prog 304 (TypeDesc.struct
      #[{ name := "Size_", type := 12, offset := 0, embedded := false, tag := "", pkgPath := "", byteOffset := 0 },
        { name := "PtrBytes", type := 12, offset := 1, embedded := false, tag := "", pkgPath := "", byteOffset := 8 },
        { name := "Hash", type := 79, offset := 2, embedded := false, tag := "", pkgPath := "", byteOffset := 16 },
        { name := "TFlag", type := 299, offset := 3, embedded := false, tag := "", pkgPath := "", byteOffset := 20 },
        { name := "Align_", type := 5, offset := 4, embedded := false, tag := "", pkgPath := "", byteOffset := 21 },
        { name := "FieldAlign_", type := 5, offset := 5, embedded := false, tag := "", pkgPath := "",
          byteOffset := 22 },
        { name := "Kind_", type := 300, offset := 6, embedded := false, tag := "", pkgPath := "", byteOffset := 23 },
        { name := "Equal", type := 301, offset := 7, embedded := false, tag := "", pkgPath := "", byteOffset := 24 },
        { name := "GCData", type := 186, offset := 8, embedded := false, tag := "", pkgPath := "", byteOffset := 32 },
        { name := "Str", type := 302, offset := 9, embedded := false, tag := "", pkgPath := "", byteOffset := 40 },
        { name := "PtrToThis", type := 303, offset := 10, embedded := false, tag := "", pkgPath := "",
          byteOffset := 44 }]) 11 48 (Value.agg
        #[Value.int IntKind.u64 0, Value.int IntKind.u64 0, Value.int IntKind.u32 0, Value.int IntKind.u8 0,
          Value.int IntKind.u8 0, Value.int IntKind.u8 0, Value.int IntKind.u8 0, Value.nilFunc, Value.pointer none,
          Value.int IntKind.i32 0, Value.int IntKind.i32 0]) := ⟨Tryz.underlying304, Tryz.t304, rfl, rfl, rfl, rfl⟩
instance ty305 : Ty Tryz.prog 305 (TypeDesc.struct
      #[{ name := "Size_", type := 12, offset := 0, embedded := false, tag := "", pkgPath := "", byteOffset := 0 },
        { name := "PtrBytes", type := 12, offset := 1, embedded := false, tag := "", pkgPath := "", byteOffset := 8 },
        { name := "Hash", type := 79, offset := 2, embedded := false, tag := "", pkgPath := "", byteOffset := 16 },
        { name := "TFlag", type := 299, offset := 3, embedded := false, tag := "", pkgPath := "", byteOffset := 20 },
        { name := "Align_", type := 5, offset := 4, embedded := false, tag := "", pkgPath := "", byteOffset := 21 },
        { name := "FieldAlign_", type := 5, offset := 5, embedded := false, tag := "", pkgPath := "",
          byteOffset := 22 },
        { name := "Kind_", type := 300, offset := 6, embedded := false, tag := "", pkgPath := "", byteOffset := 23 },
        { name := "Equal", type := 301, offset := 7, embedded := false, tag := "", pkgPath := "", byteOffset := 24 },
        { name := "GCData", type := 186, offset := 8, embedded := false, tag := "", pkgPath := "", byteOffset := 32 },
        { name := "Str", type := 302, offset := 9, embedded := false, tag := "", pkgPath := "", byteOffset := 40 },
        { name := "PtrToThis", type := 303, offset := 10, embedded := false, tag := "", pkgPath := "",
          byteOffset := 44 }]) 11 48 (Value.agg
        #[Value.int IntKind.u64 0, Value.int IntKind.u64 0, Value.int IntKind.u32 0, Value.int IntKind.u8 0,
          Value.int IntKind.u8 0, Value.int IntKind.u8 0, Value.int IntKind.u8 0, Value.nilFunc, Value.pointer none,
          Value.int IntKind.i32 0, Value.int IntKind.i32 0]) := ⟨Tryz.underlying305, Tryz.t305, rfl, rfl, rfl, rfl⟩
instance fa7_0 : FieldAt Tryz.prog 7 0 0 := FieldAt.of (i := 0) Tryz.underlying7 rfl ty2 (by decide)
instance fo7_0 : FieldOf Tryz.prog 7 0 0 false 1 := FieldOf.of (i := 0) Tryz.underlying7 rfl ty2
instance fa7_1 : FieldAt Tryz.prog 7 1 1 := FieldAt.of (i := 1) Tryz.underlying7 rfl ty3 (by decide)
instance fo7_1 : FieldOf Tryz.prog 7 1 1 false 1 := FieldOf.of (i := 1) Tryz.underlying7 rfl ty3
instance fa7_2 : FieldAt Tryz.prog 7 2 2 := FieldAt.of (i := 2) Tryz.underlying7 rfl ty4 (by decide)
instance fo7_2 : FieldOf Tryz.prog 7 2 2 false 1 := FieldOf.of (i := 2) Tryz.underlying7 rfl ty4
instance fa7_3 : FieldAt Tryz.prog 7 3 3 := FieldAt.of (i := 3) Tryz.underlying7 rfl ty6 (by decide)
instance fo7_3 : FieldOf Tryz.prog 7 3 3 false 1 := FieldOf.of (i := 3) Tryz.underlying7 rfl ty6
instance bt7 : BuildT Tryz.prog 7 [(0, 1), (1, 1), (2, 1), (3, 1)] [Value.int IntKind.i64 0, Value.int IntKind.i64 0, Value.bool false, Value.int IntKind.u8 0] := BuildT.of Tryz.underlying7 Tryz.zeroValue7 (fun w => by kernel_rfl) (by decide)
instance fa8_0 : FieldAt Tryz.prog 8 0 0 := FieldAt.of (i := 0) Tryz.underlying8 rfl ty2 (by decide)
instance fo8_0 : FieldOf Tryz.prog 8 0 0 false 1 := FieldOf.of (i := 0) Tryz.underlying8 rfl ty2
instance fa8_1 : FieldAt Tryz.prog 8 1 1 := FieldAt.of (i := 1) Tryz.underlying8 rfl ty3 (by decide)
instance fo8_1 : FieldOf Tryz.prog 8 1 1 false 1 := FieldOf.of (i := 1) Tryz.underlying8 rfl ty3
instance fa8_2 : FieldAt Tryz.prog 8 2 2 := FieldAt.of (i := 2) Tryz.underlying8 rfl ty4 (by decide)
instance fo8_2 : FieldOf Tryz.prog 8 2 2 false 1 := FieldOf.of (i := 2) Tryz.underlying8 rfl ty4
instance fa8_3 : FieldAt Tryz.prog 8 3 3 := FieldAt.of (i := 3) Tryz.underlying8 rfl ty6 (by decide)
instance fo8_3 : FieldOf Tryz.prog 8 3 3 false 1 := FieldOf.of (i := 3) Tryz.underlying8 rfl ty6
instance bt8 : BuildT Tryz.prog 8 [(0, 1), (1, 1), (2, 1), (3, 1)] [Value.int IntKind.i64 0, Value.int IntKind.i64 0, Value.bool false, Value.int IntKind.u8 0] := BuildT.of Tryz.underlying8 Tryz.zeroValue8 (fun w => by kernel_rfl) (by decide)
instance fa13_0 : FieldAt Tryz.prog 13 0 0 := FieldAt.of (i := 0) Tryz.underlying13 rfl ty9 (by decide)
instance fo13_0 : FieldOf Tryz.prog 13 0 0 false 1 := FieldOf.of (i := 0) Tryz.underlying13 rfl ty9
instance fa13_1 : FieldAt Tryz.prog 13 1 1 := FieldAt.of (i := 1) Tryz.underlying13 rfl ty12 (by decide)
instance fo13_1 : FieldOf Tryz.prog 13 1 1 false 1 := FieldOf.of (i := 1) Tryz.underlying13 rfl ty12
instance bt13 : BuildT Tryz.prog 13 [(0, 1), (1, 1)] [Value.string { data := #[] }, Value.int IntKind.u64 0] := BuildT.of Tryz.underlying13 Tryz.zeroValue13 (fun w => by kernel_rfl) (by decide)
instance fa14_0 : FieldAt Tryz.prog 14 0 0 := FieldAt.of (i := 0) Tryz.underlying14 rfl ty9 (by decide)
instance fo14_0 : FieldOf Tryz.prog 14 0 0 false 1 := FieldOf.of (i := 0) Tryz.underlying14 rfl ty9
instance fa14_1 : FieldAt Tryz.prog 14 1 1 := FieldAt.of (i := 1) Tryz.underlying14 rfl ty12 (by decide)
instance fo14_1 : FieldOf Tryz.prog 14 1 1 false 1 := FieldOf.of (i := 1) Tryz.underlying14 rfl ty12
instance bt14 : BuildT Tryz.prog 14 [(0, 1), (1, 1)] [Value.string { data := #[] }, Value.int IntKind.u64 0] := BuildT.of Tryz.underlying14 Tryz.zeroValue14 (fun w => by kernel_rfl) (by decide)
instance fa18_0 : FieldAt Tryz.prog 18 0 0 := FieldAt.of (i := 0) Tryz.underlying18 rfl ty17 (by decide)
instance fo18_0 : FieldOf Tryz.prog 18 0 0 false 1 := FieldOf.of (i := 0) Tryz.underlying18 rfl ty17
instance bt18 : BuildT Tryz.prog 18 [(0, 1)] [Value.pointer none] := BuildT.of Tryz.underlying18 Tryz.zeroValue18 (fun w => by kernel_rfl) (by decide)
instance fa19_0 : FieldAt Tryz.prog 19 0 0 := FieldAt.of (i := 0) Tryz.underlying19 rfl ty17 (by decide)
instance fo19_0 : FieldOf Tryz.prog 19 0 0 false 1 := FieldOf.of (i := 0) Tryz.underlying19 rfl ty17
instance bt19 : BuildT Tryz.prog 19 [(0, 1)] [Value.pointer none] := BuildT.of Tryz.underlying19 Tryz.zeroValue19 (fun w => by kernel_rfl) (by decide)
instance fa25_0 : FieldAt Tryz.prog 25 0 0 := FieldAt.of (i := 0) Tryz.underlying25 rfl ty22 (by decide)
instance fo25_0 : FieldOf Tryz.prog 25 0 0 false 1 := FieldOf.of (i := 0) Tryz.underlying25 rfl ty22
instance fa25_1 : FieldAt Tryz.prog 25 1 1 := FieldAt.of (i := 1) Tryz.underlying25 rfl ty23 (by decide)
instance fo25_1 : FieldOf Tryz.prog 25 1 1 false 1 := FieldOf.of (i := 1) Tryz.underlying25 rfl ty23
instance fa25_2 : FieldAt Tryz.prog 25 2 2 := FieldAt.of (i := 2) Tryz.underlying25 rfl ty24 (by decide)
instance fo25_2 : FieldOf Tryz.prog 25 2 2 false 1 := FieldOf.of (i := 2) Tryz.underlying25 rfl ty24
instance bt25 : BuildT Tryz.prog 25 [(0, 1), (1, 1), (2, 1)] [Value.slice none 0 0, Value.slice none 0 0, Value.slice none 0 0] := BuildT.of Tryz.underlying25 Tryz.zeroValue25 (fun w => by kernel_rfl) (by decide)
instance fa26_0 : FieldAt Tryz.prog 26 0 0 := FieldAt.of (i := 0) Tryz.underlying26 rfl ty22 (by decide)
instance fo26_0 : FieldOf Tryz.prog 26 0 0 false 1 := FieldOf.of (i := 0) Tryz.underlying26 rfl ty22
instance fa26_1 : FieldAt Tryz.prog 26 1 1 := FieldAt.of (i := 1) Tryz.underlying26 rfl ty23 (by decide)
instance fo26_1 : FieldOf Tryz.prog 26 1 1 false 1 := FieldOf.of (i := 1) Tryz.underlying26 rfl ty23
instance fa26_2 : FieldAt Tryz.prog 26 2 2 := FieldAt.of (i := 2) Tryz.underlying26 rfl ty24 (by decide)
instance fo26_2 : FieldOf Tryz.prog 26 2 2 false 1 := FieldOf.of (i := 2) Tryz.underlying26 rfl ty24
instance bt26 : BuildT Tryz.prog 26 [(0, 1), (1, 1), (2, 1)] [Value.slice none 0 0, Value.slice none 0 0, Value.slice none 0 0] := BuildT.of Tryz.underlying26 Tryz.zeroValue26 (fun w => by kernel_rfl) (by decide)
instance fa37_0 : FieldAt Tryz.prog 37 0 0 := FieldAt.of (i := 0) Tryz.underlying37 rfl ty3 (by decide)
instance fo37_0 : FieldOf Tryz.prog 37 0 0 false 1 := FieldOf.of (i := 0) Tryz.underlying37 rfl ty3
instance fa37_1 : FieldAt Tryz.prog 37 1 1 := FieldAt.of (i := 1) Tryz.underlying37 rfl ty3 (by decide)
instance fo37_1 : FieldOf Tryz.prog 37 1 1 false 1 := FieldOf.of (i := 1) Tryz.underlying37 rfl ty3
instance fa37_2 : FieldAt Tryz.prog 37 2 2 := FieldAt.of (i := 2) Tryz.underlying37 rfl ty9 (by decide)
instance fo37_2 : FieldOf Tryz.prog 37 2 2 false 1 := FieldOf.of (i := 2) Tryz.underlying37 rfl ty9
instance fa37_3 : FieldAt Tryz.prog 37 3 3 := FieldAt.of (i := 3) Tryz.underlying37 rfl ty9 (by decide)
instance fo37_3 : FieldOf Tryz.prog 37 3 3 false 1 := FieldOf.of (i := 3) Tryz.underlying37 rfl ty9
instance fa37_4 : FieldAt Tryz.prog 37 4 4 := FieldAt.of (i := 4) Tryz.underlying37 rfl ty9 (by decide)
instance fo37_4 : FieldOf Tryz.prog 37 4 4 false 1 := FieldOf.of (i := 4) Tryz.underlying37 rfl ty9
instance fa37_5 : FieldAt Tryz.prog 37 5 5 := FieldAt.of (i := 5) Tryz.underlying37 rfl ty3 (by decide)
instance fo37_5 : FieldOf Tryz.prog 37 5 5 false 1 := FieldOf.of (i := 5) Tryz.underlying37 rfl ty3
instance fa37_6 : FieldAt Tryz.prog 37 6 6 := FieldAt.of (i := 6) Tryz.underlying37 rfl ty3 (by decide)
instance fo37_6 : FieldOf Tryz.prog 37 6 6 false 1 := FieldOf.of (i := 6) Tryz.underlying37 rfl ty3
instance bt37 : BuildT Tryz.prog 37 [(0, 1), (1, 1), (2, 1), (3, 1), (4, 1), (5, 1), (6, 1)] [Value.int IntKind.i64 0, Value.int IntKind.i64 0, Value.string { data := #[] }, Value.string { data := #[] },
          Value.string { data := #[] }, Value.int IntKind.i64 0, Value.int IntKind.i64 0] := BuildT.of Tryz.underlying37 Tryz.zeroValue37 (fun w => by kernel_rfl) (by decide)
instance fa38_0 : FieldAt Tryz.prog 38 0 0 := FieldAt.of (i := 0) Tryz.underlying38 rfl ty3 (by decide)
instance fo38_0 : FieldOf Tryz.prog 38 0 0 false 1 := FieldOf.of (i := 0) Tryz.underlying38 rfl ty3
instance fa38_1 : FieldAt Tryz.prog 38 1 1 := FieldAt.of (i := 1) Tryz.underlying38 rfl ty3 (by decide)
instance fo38_1 : FieldOf Tryz.prog 38 1 1 false 1 := FieldOf.of (i := 1) Tryz.underlying38 rfl ty3
instance fa38_2 : FieldAt Tryz.prog 38 2 2 := FieldAt.of (i := 2) Tryz.underlying38 rfl ty9 (by decide)
instance fo38_2 : FieldOf Tryz.prog 38 2 2 false 1 := FieldOf.of (i := 2) Tryz.underlying38 rfl ty9
instance fa38_3 : FieldAt Tryz.prog 38 3 3 := FieldAt.of (i := 3) Tryz.underlying38 rfl ty9 (by decide)
instance fo38_3 : FieldOf Tryz.prog 38 3 3 false 1 := FieldOf.of (i := 3) Tryz.underlying38 rfl ty9
instance fa38_4 : FieldAt Tryz.prog 38 4 4 := FieldAt.of (i := 4) Tryz.underlying38 rfl ty9 (by decide)
instance fo38_4 : FieldOf Tryz.prog 38 4 4 false 1 := FieldOf.of (i := 4) Tryz.underlying38 rfl ty9
instance fa38_5 : FieldAt Tryz.prog 38 5 5 := FieldAt.of (i := 5) Tryz.underlying38 rfl ty3 (by decide)
instance fo38_5 : FieldOf Tryz.prog 38 5 5 false 1 := FieldOf.of (i := 5) Tryz.underlying38 rfl ty3
instance fa38_6 : FieldAt Tryz.prog 38 6 6 := FieldAt.of (i := 6) Tryz.underlying38 rfl ty3 (by decide)
instance fo38_6 : FieldOf Tryz.prog 38 6 6 false 1 := FieldOf.of (i := 6) Tryz.underlying38 rfl ty3
instance bt38 : BuildT Tryz.prog 38 [(0, 1), (1, 1), (2, 1), (3, 1), (4, 1), (5, 1), (6, 1)] [Value.int IntKind.i64 0, Value.int IntKind.i64 0, Value.string { data := #[] }, Value.string { data := #[] },
          Value.string { data := #[] }, Value.int IntKind.i64 0, Value.int IntKind.i64 0] := BuildT.of Tryz.underlying38 Tryz.zeroValue38 (fun w => by kernel_rfl) (by decide)
instance fa50_0 : FieldAt Tryz.prog 50 0 0 := FieldAt.of (i := 0) Tryz.underlying50 rfl ty3 (by decide)
instance fo50_0 : FieldOf Tryz.prog 50 0 0 false 1 := FieldOf.of (i := 0) Tryz.underlying50 rfl ty3
instance fa50_1 : FieldAt Tryz.prog 50 1 1 := FieldAt.of (i := 1) Tryz.underlying50 rfl ty3 (by decide)
instance fo50_1 : FieldOf Tryz.prog 50 1 1 false 1 := FieldOf.of (i := 1) Tryz.underlying50 rfl ty3
instance fa50_2 : FieldAt Tryz.prog 50 2 2 := FieldAt.of (i := 2) Tryz.underlying50 rfl ty3 (by decide)
instance fo50_2 : FieldOf Tryz.prog 50 2 2 false 1 := FieldOf.of (i := 2) Tryz.underlying50 rfl ty3
instance fa50_3 : FieldAt Tryz.prog 50 3 3 := FieldAt.of (i := 3) Tryz.underlying50 rfl ty3 (by decide)
instance fo50_3 : FieldOf Tryz.prog 50 3 3 false 1 := FieldOf.of (i := 3) Tryz.underlying50 rfl ty3
instance fa50_4 : FieldAt Tryz.prog 50 4 4 := FieldAt.of (i := 4) Tryz.underlying50 rfl ty9 (by decide)
instance fo50_4 : FieldOf Tryz.prog 50 4 4 false 1 := FieldOf.of (i := 4) Tryz.underlying50 rfl ty9
instance fa50_5 : FieldAt Tryz.prog 50 5 5 := FieldAt.of (i := 5) Tryz.underlying50 rfl ty49 (by decide)
instance fo50_5 : FieldOf Tryz.prog 50 5 5 false 1 := FieldOf.of (i := 5) Tryz.underlying50 rfl ty49
instance bt50 : BuildT Tryz.prog 50 [(0, 1), (1, 1), (2, 1), (3, 1), (4, 1), (5, 1)] [Value.int IntKind.i64 0, Value.int IntKind.i64 0, Value.int IntKind.i64 0, Value.int IntKind.i64 0,
          Value.string { data := #[] }, Value.slice none 0 0] := BuildT.of Tryz.underlying50 Tryz.zeroValue50 (fun w => by kernel_rfl) (by decide)
instance fa51_0 : FieldAt Tryz.prog 51 0 0 := FieldAt.of (i := 0) Tryz.underlying51 rfl ty3 (by decide)
instance fo51_0 : FieldOf Tryz.prog 51 0 0 false 1 := FieldOf.of (i := 0) Tryz.underlying51 rfl ty3
instance fa51_1 : FieldAt Tryz.prog 51 1 1 := FieldAt.of (i := 1) Tryz.underlying51 rfl ty3 (by decide)
instance fo51_1 : FieldOf Tryz.prog 51 1 1 false 1 := FieldOf.of (i := 1) Tryz.underlying51 rfl ty3
instance fa51_2 : FieldAt Tryz.prog 51 2 2 := FieldAt.of (i := 2) Tryz.underlying51 rfl ty3 (by decide)
instance fo51_2 : FieldOf Tryz.prog 51 2 2 false 1 := FieldOf.of (i := 2) Tryz.underlying51 rfl ty3
instance fa51_3 : FieldAt Tryz.prog 51 3 3 := FieldAt.of (i := 3) Tryz.underlying51 rfl ty3 (by decide)
instance fo51_3 : FieldOf Tryz.prog 51 3 3 false 1 := FieldOf.of (i := 3) Tryz.underlying51 rfl ty3
instance fa51_4 : FieldAt Tryz.prog 51 4 4 := FieldAt.of (i := 4) Tryz.underlying51 rfl ty9 (by decide)
instance fo51_4 : FieldOf Tryz.prog 51 4 4 false 1 := FieldOf.of (i := 4) Tryz.underlying51 rfl ty9
instance fa51_5 : FieldAt Tryz.prog 51 5 5 := FieldAt.of (i := 5) Tryz.underlying51 rfl ty49 (by decide)
instance fo51_5 : FieldOf Tryz.prog 51 5 5 false 1 := FieldOf.of (i := 5) Tryz.underlying51 rfl ty49
instance bt51 : BuildT Tryz.prog 51 [(0, 1), (1, 1), (2, 1), (3, 1), (4, 1), (5, 1)] [Value.int IntKind.i64 0, Value.int IntKind.i64 0, Value.int IntKind.i64 0, Value.int IntKind.i64 0,
          Value.string { data := #[] }, Value.slice none 0 0] := BuildT.of Tryz.underlying51 Tryz.zeroValue51 (fun w => by kernel_rfl) (by decide)
instance fa59_0 : FieldAt Tryz.prog 59 0 0 := FieldAt.of (i := 0) Tryz.underlying59 rfl ty3 (by decide)
instance fo59_0 : FieldOf Tryz.prog 59 0 0 false 1 := FieldOf.of (i := 0) Tryz.underlying59 rfl ty3
instance fa59_1 : FieldAt Tryz.prog 59 1 1 := FieldAt.of (i := 1) Tryz.underlying59 rfl ty3 (by decide)
instance fo59_1 : FieldOf Tryz.prog 59 1 1 false 1 := FieldOf.of (i := 1) Tryz.underlying59 rfl ty3
instance fa59_2 : FieldAt Tryz.prog 59 2 2 := FieldAt.of (i := 2) Tryz.underlying59 rfl ty49 (by decide)
instance fo59_2 : FieldOf Tryz.prog 59 2 2 false 1 := FieldOf.of (i := 2) Tryz.underlying59 rfl ty49
instance bt59 : BuildT Tryz.prog 59 [(0, 1), (1, 1), (2, 1)] [Value.int IntKind.i64 0, Value.int IntKind.i64 0, Value.slice none 0 0] := BuildT.of Tryz.underlying59 Tryz.zeroValue59 (fun w => by kernel_rfl) (by decide)
instance fa60_0 : FieldAt Tryz.prog 60 0 0 := FieldAt.of (i := 0) Tryz.underlying60 rfl ty3 (by decide)
instance fo60_0 : FieldOf Tryz.prog 60 0 0 false 1 := FieldOf.of (i := 0) Tryz.underlying60 rfl ty3
instance fa60_1 : FieldAt Tryz.prog 60 1 1 := FieldAt.of (i := 1) Tryz.underlying60 rfl ty3 (by decide)
instance fo60_1 : FieldOf Tryz.prog 60 1 1 false 1 := FieldOf.of (i := 1) Tryz.underlying60 rfl ty3
instance fa60_2 : FieldAt Tryz.prog 60 2 2 := FieldAt.of (i := 2) Tryz.underlying60 rfl ty49 (by decide)
instance fo60_2 : FieldOf Tryz.prog 60 2 2 false 1 := FieldOf.of (i := 2) Tryz.underlying60 rfl ty49
instance bt60 : BuildT Tryz.prog 60 [(0, 1), (1, 1), (2, 1)] [Value.int IntKind.i64 0, Value.int IntKind.i64 0, Value.slice none 0 0] := BuildT.of Tryz.underlying60 Tryz.zeroValue60 (fun w => by kernel_rfl) (by decide)
instance fa61_0 : FieldAt Tryz.prog 61 0 0 := FieldAt.of (i := 0) Tryz.underlying61 rfl ty3 (by decide)
instance fo61_0 : FieldOf Tryz.prog 61 0 0 false 1 := FieldOf.of (i := 0) Tryz.underlying61 rfl ty3
instance fa61_1 : FieldAt Tryz.prog 61 1 1 := FieldAt.of (i := 1) Tryz.underlying61 rfl ty9 (by decide)
instance fo61_1 : FieldOf Tryz.prog 61 1 1 false 1 := FieldOf.of (i := 1) Tryz.underlying61 rfl ty9
instance fa61_2 : FieldAt Tryz.prog 61 2 2 := FieldAt.of (i := 2) Tryz.underlying61 rfl ty3 (by decide)
instance fo61_2 : FieldOf Tryz.prog 61 2 2 false 1 := FieldOf.of (i := 2) Tryz.underlying61 rfl ty3
instance fa61_3 : FieldAt Tryz.prog 61 3 3 := FieldAt.of (i := 3) Tryz.underlying61 rfl ty3 (by decide)
instance fo61_3 : FieldOf Tryz.prog 61 3 3 false 1 := FieldOf.of (i := 3) Tryz.underlying61 rfl ty3
instance fa61_4 : FieldAt Tryz.prog 61 4 4 := FieldAt.of (i := 4) Tryz.underlying61 rfl ty60 (by decide)
instance fo61_4 : FieldOf Tryz.prog 61 4 4 true 3 := FieldOf.of (i := 4) Tryz.underlying61 rfl ty60
instance fa61_5 : FieldAt Tryz.prog 61 5 7 := FieldAt.of (i := 5) Tryz.underlying61 rfl ty22 (by decide)
instance fo61_5 : FieldOf Tryz.prog 61 5 7 false 1 := FieldOf.of (i := 5) Tryz.underlying61 rfl ty22
instance bt61 : BuildT Tryz.prog 61 [(0, 1), (1, 1), (2, 1), (3, 1), (4, 3), (7, 1)] [Value.int IntKind.i64 0, Value.string { data := #[] }, Value.int IntKind.i64 0, Value.int IntKind.i64 0,
          Value.int IntKind.i64 0, Value.int IntKind.i64 0, Value.slice none 0 0, Value.slice none 0 0] := BuildT.of Tryz.underlying61 Tryz.zeroValue61 (fun w => by kernel_rfl) (by decide)
instance fa62_0 : FieldAt Tryz.prog 62 0 0 := FieldAt.of (i := 0) Tryz.underlying62 rfl ty3 (by decide)
instance fo62_0 : FieldOf Tryz.prog 62 0 0 false 1 := FieldOf.of (i := 0) Tryz.underlying62 rfl ty3
instance fa62_1 : FieldAt Tryz.prog 62 1 1 := FieldAt.of (i := 1) Tryz.underlying62 rfl ty9 (by decide)
instance fo62_1 : FieldOf Tryz.prog 62 1 1 false 1 := FieldOf.of (i := 1) Tryz.underlying62 rfl ty9
instance fa62_2 : FieldAt Tryz.prog 62 2 2 := FieldAt.of (i := 2) Tryz.underlying62 rfl ty3 (by decide)
instance fo62_2 : FieldOf Tryz.prog 62 2 2 false 1 := FieldOf.of (i := 2) Tryz.underlying62 rfl ty3
instance fa62_3 : FieldAt Tryz.prog 62 3 3 := FieldAt.of (i := 3) Tryz.underlying62 rfl ty3 (by decide)
instance fo62_3 : FieldOf Tryz.prog 62 3 3 false 1 := FieldOf.of (i := 3) Tryz.underlying62 rfl ty3
instance fa62_4 : FieldAt Tryz.prog 62 4 4 := FieldAt.of (i := 4) Tryz.underlying62 rfl ty60 (by decide)
instance fo62_4 : FieldOf Tryz.prog 62 4 4 true 3 := FieldOf.of (i := 4) Tryz.underlying62 rfl ty60
instance fa62_5 : FieldAt Tryz.prog 62 5 7 := FieldAt.of (i := 5) Tryz.underlying62 rfl ty22 (by decide)
instance fo62_5 : FieldOf Tryz.prog 62 5 7 false 1 := FieldOf.of (i := 5) Tryz.underlying62 rfl ty22
instance bt62 : BuildT Tryz.prog 62 [(0, 1), (1, 1), (2, 1), (3, 1), (4, 3), (7, 1)] [Value.int IntKind.i64 0, Value.string { data := #[] }, Value.int IntKind.i64 0, Value.int IntKind.i64 0,
          Value.int IntKind.i64 0, Value.int IntKind.i64 0, Value.slice none 0 0, Value.slice none 0 0] := BuildT.of Tryz.underlying62 Tryz.zeroValue62 (fun w => by kernel_rfl) (by decide)
instance fa70_0 : FieldAt Tryz.prog 70 0 0 := FieldAt.of (i := 0) Tryz.underlying70 rfl ty3 (by decide)
instance fo70_0 : FieldOf Tryz.prog 70 0 0 false 1 := FieldOf.of (i := 0) Tryz.underlying70 rfl ty3
instance fa70_1 : FieldAt Tryz.prog 70 1 1 := FieldAt.of (i := 1) Tryz.underlying70 rfl ty3 (by decide)
instance fo70_1 : FieldOf Tryz.prog 70 1 1 false 1 := FieldOf.of (i := 1) Tryz.underlying70 rfl ty3
instance fa70_2 : FieldAt Tryz.prog 70 2 2 := FieldAt.of (i := 2) Tryz.underlying70 rfl ty9 (by decide)
instance fo70_2 : FieldOf Tryz.prog 70 2 2 false 1 := FieldOf.of (i := 2) Tryz.underlying70 rfl ty9
instance fa70_3 : FieldAt Tryz.prog 70 3 3 := FieldAt.of (i := 3) Tryz.underlying70 rfl ty9 (by decide)
instance fo70_3 : FieldOf Tryz.prog 70 3 3 false 1 := FieldOf.of (i := 3) Tryz.underlying70 rfl ty9
instance fa70_4 : FieldAt Tryz.prog 70 4 4 := FieldAt.of (i := 4) Tryz.underlying70 rfl ty9 (by decide)
instance fo70_4 : FieldOf Tryz.prog 70 4 4 false 1 := FieldOf.of (i := 4) Tryz.underlying70 rfl ty9
instance fa70_5 : FieldAt Tryz.prog 70 5 5 := FieldAt.of (i := 5) Tryz.underlying70 rfl ty3 (by decide)
instance fo70_5 : FieldOf Tryz.prog 70 5 5 false 1 := FieldOf.of (i := 5) Tryz.underlying70 rfl ty3
instance fa70_6 : FieldAt Tryz.prog 70 6 6 := FieldAt.of (i := 6) Tryz.underlying70 rfl ty3 (by decide)
instance fo70_6 : FieldOf Tryz.prog 70 6 6 false 1 := FieldOf.of (i := 6) Tryz.underlying70 rfl ty3
instance bt70 : BuildT Tryz.prog 70 [(0, 1), (1, 1), (2, 1), (3, 1), (4, 1), (5, 1), (6, 1)] [Value.int IntKind.i64 0, Value.int IntKind.i64 0, Value.string { data := #[] }, Value.string { data := #[] },
          Value.string { data := #[] }, Value.int IntKind.i64 0, Value.int IntKind.i64 0] := BuildT.of Tryz.underlying70 Tryz.zeroValue70 (fun w => by kernel_rfl) (by decide)
instance fa80_0 : FieldAt Tryz.prog 80 0 0 := FieldAt.of (i := 0) Tryz.underlying80 rfl ty21 (by decide)
instance fo80_0 : FieldOf Tryz.prog 80 0 0 false 1 := FieldOf.of (i := 0) Tryz.underlying80 rfl ty21
instance fa80_1 : FieldAt Tryz.prog 80 1 1 := FieldAt.of (i := 1) Tryz.underlying80 rfl ty79 (by decide)
instance fo80_1 : FieldOf Tryz.prog 80 1 1 false 1 := FieldOf.of (i := 1) Tryz.underlying80 rfl ty79
instance bt80 : BuildT Tryz.prog 80 [(0, 1), (1, 1)] [Value.int IntKind.i32 0, Value.int IntKind.u32 0] := BuildT.of Tryz.underlying80 Tryz.zeroValue80 (fun w => by kernel_rfl) (by decide)
instance fa81_0 : FieldAt Tryz.prog 81 0 0 := FieldAt.of (i := 0) Tryz.underlying81 rfl ty21 (by decide)
instance fo81_0 : FieldOf Tryz.prog 81 0 0 false 1 := FieldOf.of (i := 0) Tryz.underlying81 rfl ty21
instance fa81_1 : FieldAt Tryz.prog 81 1 1 := FieldAt.of (i := 1) Tryz.underlying81 rfl ty79 (by decide)
instance fo81_1 : FieldOf Tryz.prog 81 1 1 false 1 := FieldOf.of (i := 1) Tryz.underlying81 rfl ty79
instance bt81 : BuildT Tryz.prog 81 [(0, 1), (1, 1)] [Value.int IntKind.i32 0, Value.int IntKind.u32 0] := BuildT.of Tryz.underlying81 Tryz.zeroValue81 (fun w => by kernel_rfl) (by decide)
instance fo82_0 : FieldOf Tryz.prog 82 0 0 true 0 := FieldOf.of (i := 0) Tryz.underlying82 rfl ty78
instance fa82_1 : FieldAt Tryz.prog 82 1 0 := FieldAt.of (i := 1) Tryz.underlying82 rfl ty81 (by decide)
instance fo82_1 : FieldOf Tryz.prog 82 1 0 true 2 := FieldOf.of (i := 1) Tryz.underlying82 rfl ty81
instance bt82 : BuildT Tryz.prog 82 [(0, 0), (0, 2)] [Value.int IntKind.i32 0, Value.int IntKind.u32 0] := BuildT.of Tryz.underlying82 Tryz.zeroValue82 (fun w => by kernel_rfl) (by decide)
instance fo83_0 : FieldOf Tryz.prog 83 0 0 true 0 := FieldOf.of (i := 0) Tryz.underlying83 rfl ty78
instance fa83_1 : FieldAt Tryz.prog 83 1 0 := FieldAt.of (i := 1) Tryz.underlying83 rfl ty81 (by decide)
instance fo83_1 : FieldOf Tryz.prog 83 1 0 true 2 := FieldOf.of (i := 1) Tryz.underlying83 rfl ty81
instance bt83 : BuildT Tryz.prog 83 [(0, 0), (0, 2)] [Value.int IntKind.i32 0, Value.int IntKind.u32 0] := BuildT.of Tryz.underlying83 Tryz.zeroValue83 (fun w => by kernel_rfl) (by decide)
instance fa87_0 : FieldAt Tryz.prog 87 0 0 := FieldAt.of (i := 0) Tryz.underlying87 rfl ty84 (by decide)
instance fo87_0 : FieldOf Tryz.prog 87 0 0 false 1 := FieldOf.of (i := 0) Tryz.underlying87 rfl ty84
instance fa87_1 : FieldAt Tryz.prog 87 1 1 := FieldAt.of (i := 1) Tryz.underlying87 rfl ty84 (by decide)
instance fo87_1 : FieldOf Tryz.prog 87 1 1 false 1 := FieldOf.of (i := 1) Tryz.underlying87 rfl ty84
instance fa87_2 : FieldAt Tryz.prog 87 2 2 := FieldAt.of (i := 2) Tryz.underlying87 rfl ty85 (by decide)
instance fo87_2 : FieldOf Tryz.prog 87 2 2 false 1 := FieldOf.of (i := 2) Tryz.underlying87 rfl ty85
instance fa87_3 : FieldAt Tryz.prog 87 3 3 := FieldAt.of (i := 3) Tryz.underlying87 rfl ty86 (by decide)
instance fo87_3 : FieldOf Tryz.prog 87 3 3 true 3 := FieldOf.of (i := 3) Tryz.underlying87 rfl ty86
instance bt87 : BuildT Tryz.prog 87 [(0, 1), (1, 1), (2, 1), (3, 3)] [Value.slice none 0 0, Value.slice none 0 0, Value.map none, Value.int IntKind.i64 0, Value.int IntKind.i64 0,
          Value.int IntKind.i64 0] := BuildT.of Tryz.underlying87 Tryz.zeroValue87 (fun w => by kernel_rfl) (by decide)
instance fa88_0 : FieldAt Tryz.prog 88 0 0 := FieldAt.of (i := 0) Tryz.underlying88 rfl ty84 (by decide)
instance fo88_0 : FieldOf Tryz.prog 88 0 0 false 1 := FieldOf.of (i := 0) Tryz.underlying88 rfl ty84
instance fa88_1 : FieldAt Tryz.prog 88 1 1 := FieldAt.of (i := 1) Tryz.underlying88 rfl ty84 (by decide)
instance fo88_1 : FieldOf Tryz.prog 88 1 1 false 1 := FieldOf.of (i := 1) Tryz.underlying88 rfl ty84
instance fa88_2 : FieldAt Tryz.prog 88 2 2 := FieldAt.of (i := 2) Tryz.underlying88 rfl ty85 (by decide)
instance fo88_2 : FieldOf Tryz.prog 88 2 2 false 1 := FieldOf.of (i := 2) Tryz.underlying88 rfl ty85
instance fa88_3 : FieldAt Tryz.prog 88 3 3 := FieldAt.of (i := 3) Tryz.underlying88 rfl ty86 (by decide)
instance fo88_3 : FieldOf Tryz.prog 88 3 3 true 3 := FieldOf.of (i := 3) Tryz.underlying88 rfl ty86
instance bt88 : BuildT Tryz.prog 88 [(0, 1), (1, 1), (2, 1), (3, 3)] [Value.slice none 0 0, Value.slice none 0 0, Value.map none, Value.int IntKind.i64 0, Value.int IntKind.i64 0,
          Value.int IntKind.i64 0] := BuildT.of Tryz.underlying88 Tryz.zeroValue88 (fun w => by kernel_rfl) (by decide)
instance fa90_0 : FieldAt Tryz.prog 90 0 0 := FieldAt.of (i := 0) Tryz.underlying90 rfl ty83 (by decide)
instance fo90_0 : FieldOf Tryz.prog 90 0 0 true 2 := FieldOf.of (i := 0) Tryz.underlying90 rfl ty83
instance fa90_1 : FieldAt Tryz.prog 90 1 2 := FieldAt.of (i := 1) Tryz.underlying90 rfl ty88 (by decide)
instance fo90_1 : FieldOf Tryz.prog 90 1 2 true 6 := FieldOf.of (i := 1) Tryz.underlying90 rfl ty88
instance fa90_2 : FieldAt Tryz.prog 90 2 8 := FieldAt.of (i := 2) Tryz.underlying90 rfl ty89 (by decide)
instance fo90_2 : FieldOf Tryz.prog 90 2 8 false 1 := FieldOf.of (i := 2) Tryz.underlying90 rfl ty89
instance fa90_3 : FieldAt Tryz.prog 90 3 9 := FieldAt.of (i := 3) Tryz.underlying90 rfl ty9 (by decide)
instance fo90_3 : FieldOf Tryz.prog 90 3 9 false 1 := FieldOf.of (i := 3) Tryz.underlying90 rfl ty9
instance bt90 : BuildT Tryz.prog 90 [(0, 2), (2, 6), (8, 1), (9, 1)] [Value.int IntKind.i32 0, Value.int IntKind.u32 0, Value.slice none 0 0, Value.slice none 0 0, Value.map none,
          Value.int IntKind.i64 0, Value.int IntKind.i64 0, Value.int IntKind.i64 0, Value.pointer none,
          Value.string { data := #[] }] := BuildT.of Tryz.underlying90 Tryz.zeroValue90 (fun w => by kernel_rfl) (by decide)
instance fa91_0 : FieldAt Tryz.prog 91 0 0 := FieldAt.of (i := 0) Tryz.underlying91 rfl ty83 (by decide)
instance fo91_0 : FieldOf Tryz.prog 91 0 0 true 2 := FieldOf.of (i := 0) Tryz.underlying91 rfl ty83
instance fa91_1 : FieldAt Tryz.prog 91 1 2 := FieldAt.of (i := 1) Tryz.underlying91 rfl ty88 (by decide)
instance fo91_1 : FieldOf Tryz.prog 91 1 2 true 6 := FieldOf.of (i := 1) Tryz.underlying91 rfl ty88
instance fa91_2 : FieldAt Tryz.prog 91 2 8 := FieldAt.of (i := 2) Tryz.underlying91 rfl ty89 (by decide)
instance fo91_2 : FieldOf Tryz.prog 91 2 8 false 1 := FieldOf.of (i := 2) Tryz.underlying91 rfl ty89
instance fa91_3 : FieldAt Tryz.prog 91 3 9 := FieldAt.of (i := 3) Tryz.underlying91 rfl ty9 (by decide)
instance fo91_3 : FieldOf Tryz.prog 91 3 9 false 1 := FieldOf.of (i := 3) Tryz.underlying91 rfl ty9
instance bt91 : BuildT Tryz.prog 91 [(0, 2), (2, 6), (8, 1), (9, 1)] [Value.int IntKind.i32 0, Value.int IntKind.u32 0, Value.slice none 0 0, Value.slice none 0 0, Value.map none,
          Value.int IntKind.i64 0, Value.int IntKind.i64 0, Value.int IntKind.i64 0, Value.pointer none,
          Value.string { data := #[] }] := BuildT.of Tryz.underlying91 Tryz.zeroValue91 (fun w => by kernel_rfl) (by decide)
instance fa95_0 : FieldAt Tryz.prog 95 0 0 := FieldAt.of (i := 0) Tryz.underlying95 rfl ty9 (by decide)
instance fo95_0 : FieldOf Tryz.prog 95 0 0 false 1 := FieldOf.of (i := 0) Tryz.underlying95 rfl ty9
instance fa95_1 : FieldAt Tryz.prog 95 1 1 := FieldAt.of (i := 1) Tryz.underlying95 rfl ty9 (by decide)
instance fo95_1 : FieldOf Tryz.prog 95 1 1 false 1 := FieldOf.of (i := 1) Tryz.underlying95 rfl ty9
instance bt95 : BuildT Tryz.prog 95 [(0, 1), (1, 1)] [Value.string { data := #[] }, Value.string { data := #[] }] := BuildT.of Tryz.underlying95 Tryz.zeroValue95 (fun w => by kernel_rfl) (by decide)
instance fa96_0 : FieldAt Tryz.prog 96 0 0 := FieldAt.of (i := 0) Tryz.underlying96 rfl ty9 (by decide)
instance fo96_0 : FieldOf Tryz.prog 96 0 0 false 1 := FieldOf.of (i := 0) Tryz.underlying96 rfl ty9
instance fa96_1 : FieldAt Tryz.prog 96 1 1 := FieldAt.of (i := 1) Tryz.underlying96 rfl ty9 (by decide)
instance fo96_1 : FieldOf Tryz.prog 96 1 1 false 1 := FieldOf.of (i := 1) Tryz.underlying96 rfl ty9
instance bt96 : BuildT Tryz.prog 96 [(0, 1), (1, 1)] [Value.string { data := #[] }, Value.string { data := #[] }] := BuildT.of Tryz.underlying96 Tryz.zeroValue96 (fun w => by kernel_rfl) (by decide)
instance fa97_0 : FieldAt Tryz.prog 97 0 0 := FieldAt.of (i := 0) Tryz.underlying97 rfl ty96 (by decide)
instance fo97_0 : FieldOf Tryz.prog 97 0 0 true 2 := FieldOf.of (i := 0) Tryz.underlying97 rfl ty96
instance fa97_1 : FieldAt Tryz.prog 97 1 2 := FieldAt.of (i := 1) Tryz.underlying97 rfl ty3 (by decide)
instance fo97_1 : FieldOf Tryz.prog 97 1 2 false 1 := FieldOf.of (i := 1) Tryz.underlying97 rfl ty3
instance fa97_2 : FieldAt Tryz.prog 97 2 3 := FieldAt.of (i := 2) Tryz.underlying97 rfl ty3 (by decide)
instance fo97_2 : FieldOf Tryz.prog 97 2 3 false 1 := FieldOf.of (i := 2) Tryz.underlying97 rfl ty3
instance bt97 : BuildT Tryz.prog 97 [(0, 2), (2, 1), (3, 1)] [Value.string { data := #[] }, Value.string { data := #[] }, Value.int IntKind.i64 0, Value.int IntKind.i64 0] := BuildT.of Tryz.underlying97 Tryz.zeroValue97 (fun w => by kernel_rfl) (by decide)
instance fa98_0 : FieldAt Tryz.prog 98 0 0 := FieldAt.of (i := 0) Tryz.underlying98 rfl ty96 (by decide)
instance fo98_0 : FieldOf Tryz.prog 98 0 0 true 2 := FieldOf.of (i := 0) Tryz.underlying98 rfl ty96
instance fa98_1 : FieldAt Tryz.prog 98 1 2 := FieldAt.of (i := 1) Tryz.underlying98 rfl ty3 (by decide)
instance fo98_1 : FieldOf Tryz.prog 98 1 2 false 1 := FieldOf.of (i := 1) Tryz.underlying98 rfl ty3
instance fa98_2 : FieldAt Tryz.prog 98 2 3 := FieldAt.of (i := 2) Tryz.underlying98 rfl ty3 (by decide)
instance fo98_2 : FieldOf Tryz.prog 98 2 3 false 1 := FieldOf.of (i := 2) Tryz.underlying98 rfl ty3
instance bt98 : BuildT Tryz.prog 98 [(0, 2), (2, 1), (3, 1)] [Value.string { data := #[] }, Value.string { data := #[] }, Value.int IntKind.i64 0, Value.int IntKind.i64 0] := BuildT.of Tryz.underlying98 Tryz.zeroValue98 (fun w => by kernel_rfl) (by decide)
instance fa111_0 : FieldAt Tryz.prog 111 0 0 := FieldAt.of (i := 0) Tryz.underlying111 rfl ty109 (by decide)
instance fo111_0 : FieldOf Tryz.prog 111 0 0 false 1 := FieldOf.of (i := 0) Tryz.underlying111 rfl ty109
instance fa111_1 : FieldAt Tryz.prog 111 1 1 := FieldAt.of (i := 1) Tryz.underlying111 rfl ty110 (by decide)
instance fo111_1 : FieldOf Tryz.prog 111 1 1 false 1 := FieldOf.of (i := 1) Tryz.underlying111 rfl ty110
instance fa111_2 : FieldAt Tryz.prog 111 2 2 := FieldAt.of (i := 2) Tryz.underlying111 rfl ty86 (by decide)
instance fo111_2 : FieldOf Tryz.prog 111 2 2 true 3 := FieldOf.of (i := 2) Tryz.underlying111 rfl ty86
instance bt111 : BuildT Tryz.prog 111 [(0, 1), (1, 1), (2, 3)] [Value.slice none 0 0, Value.slice none 0 0, Value.int IntKind.i64 0, Value.int IntKind.i64 0,
          Value.int IntKind.i64 0] := BuildT.of Tryz.underlying111 Tryz.zeroValue111 (fun w => by kernel_rfl) (by decide)
instance fa112_0 : FieldAt Tryz.prog 112 0 0 := FieldAt.of (i := 0) Tryz.underlying112 rfl ty109 (by decide)
instance fo112_0 : FieldOf Tryz.prog 112 0 0 false 1 := FieldOf.of (i := 0) Tryz.underlying112 rfl ty109
instance fa112_1 : FieldAt Tryz.prog 112 1 1 := FieldAt.of (i := 1) Tryz.underlying112 rfl ty110 (by decide)
instance fo112_1 : FieldOf Tryz.prog 112 1 1 false 1 := FieldOf.of (i := 1) Tryz.underlying112 rfl ty110
instance fa112_2 : FieldAt Tryz.prog 112 2 2 := FieldAt.of (i := 2) Tryz.underlying112 rfl ty86 (by decide)
instance fo112_2 : FieldOf Tryz.prog 112 2 2 true 3 := FieldOf.of (i := 2) Tryz.underlying112 rfl ty86
instance bt112 : BuildT Tryz.prog 112 [(0, 1), (1, 1), (2, 3)] [Value.slice none 0 0, Value.slice none 0 0, Value.int IntKind.i64 0, Value.int IntKind.i64 0,
          Value.int IntKind.i64 0] := BuildT.of Tryz.underlying112 Tryz.zeroValue112 (fun w => by kernel_rfl) (by decide)
instance fa114_0 : FieldAt Tryz.prog 114 0 0 := FieldAt.of (i := 0) Tryz.underlying114 rfl ty113 (by decide)
instance fo114_0 : FieldOf Tryz.prog 114 0 0 false 1 := FieldOf.of (i := 0) Tryz.underlying114 rfl ty113
instance fa114_1 : FieldAt Tryz.prog 114 1 1 := FieldAt.of (i := 1) Tryz.underlying114 rfl ty113 (by decide)
instance fo114_1 : FieldOf Tryz.prog 114 1 1 false 1 := FieldOf.of (i := 1) Tryz.underlying114 rfl ty113
instance bt114 : BuildT Tryz.prog 114 [(0, 1), (1, 1)] [Value.slice none 0 0, Value.slice none 0 0] := BuildT.of Tryz.underlying114 Tryz.zeroValue114 (fun w => by kernel_rfl) (by decide)
instance fa115_0 : FieldAt Tryz.prog 115 0 0 := FieldAt.of (i := 0) Tryz.underlying115 rfl ty113 (by decide)
instance fo115_0 : FieldOf Tryz.prog 115 0 0 false 1 := FieldOf.of (i := 0) Tryz.underlying115 rfl ty113
instance fa115_1 : FieldAt Tryz.prog 115 1 1 := FieldAt.of (i := 1) Tryz.underlying115 rfl ty113 (by decide)
instance fo115_1 : FieldOf Tryz.prog 115 1 1 false 1 := FieldOf.of (i := 1) Tryz.underlying115 rfl ty113
instance bt115 : BuildT Tryz.prog 115 [(0, 1), (1, 1)] [Value.slice none 0 0, Value.slice none 0 0] := BuildT.of Tryz.underlying115 Tryz.zeroValue115 (fun w => by kernel_rfl) (by decide)
instance fa116_0 : FieldAt Tryz.prog 116 0 0 := FieldAt.of (i := 0) Tryz.underlying116 rfl ty3 (by decide)
instance fo116_0 : FieldOf Tryz.prog 116 0 0 false 1 := FieldOf.of (i := 0) Tryz.underlying116 rfl ty3
instance fa116_1 : FieldAt Tryz.prog 116 1 1 := FieldAt.of (i := 1) Tryz.underlying116 rfl ty3 (by decide)
instance fo116_1 : FieldOf Tryz.prog 116 1 1 false 1 := FieldOf.of (i := 1) Tryz.underlying116 rfl ty3
instance fa116_2 : FieldAt Tryz.prog 116 2 2 := FieldAt.of (i := 2) Tryz.underlying116 rfl ty9 (by decide)
instance fo116_2 : FieldOf Tryz.prog 116 2 2 false 1 := FieldOf.of (i := 2) Tryz.underlying116 rfl ty9
instance fa116_3 : FieldAt Tryz.prog 116 3 3 := FieldAt.of (i := 3) Tryz.underlying116 rfl ty9 (by decide)
instance fo116_3 : FieldOf Tryz.prog 116 3 3 false 1 := FieldOf.of (i := 3) Tryz.underlying116 rfl ty9
instance fa116_4 : FieldAt Tryz.prog 116 4 4 := FieldAt.of (i := 4) Tryz.underlying116 rfl ty9 (by decide)
instance fo116_4 : FieldOf Tryz.prog 116 4 4 false 1 := FieldOf.of (i := 4) Tryz.underlying116 rfl ty9
instance fa116_5 : FieldAt Tryz.prog 116 5 5 := FieldAt.of (i := 5) Tryz.underlying116 rfl ty3 (by decide)
instance fo116_5 : FieldOf Tryz.prog 116 5 5 false 1 := FieldOf.of (i := 5) Tryz.underlying116 rfl ty3
instance fa116_6 : FieldAt Tryz.prog 116 6 6 := FieldAt.of (i := 6) Tryz.underlying116 rfl ty3 (by decide)
instance fo116_6 : FieldOf Tryz.prog 116 6 6 false 1 := FieldOf.of (i := 6) Tryz.underlying116 rfl ty3
instance bt116 : BuildT Tryz.prog 116 [(0, 1), (1, 1), (2, 1), (3, 1), (4, 1), (5, 1), (6, 1)] [Value.int IntKind.i64 0, Value.int IntKind.i64 0, Value.string { data := #[] }, Value.string { data := #[] },
          Value.string { data := #[] }, Value.int IntKind.i64 0, Value.int IntKind.i64 0] := BuildT.of Tryz.underlying116 Tryz.zeroValue116 (fun w => by kernel_rfl) (by decide)
instance fa118_0 : FieldAt Tryz.prog 118 0 0 := FieldAt.of (i := 0) Tryz.underlying118 rfl ty116 (by decide)
instance fo118_0 : FieldOf Tryz.prog 118 0 0 true 7 := FieldOf.of (i := 0) Tryz.underlying118 rfl ty116
instance fa118_1 : FieldAt Tryz.prog 118 1 7 := FieldAt.of (i := 1) Tryz.underlying118 rfl ty3 (by decide)
instance fo118_1 : FieldOf Tryz.prog 118 1 7 false 1 := FieldOf.of (i := 1) Tryz.underlying118 rfl ty3
instance bt118 : BuildT Tryz.prog 118 [(0, 7), (7, 1)] [Value.int IntKind.i64 0, Value.int IntKind.i64 0, Value.string { data := #[] }, Value.string { data := #[] },
          Value.string { data := #[] }, Value.int IntKind.i64 0, Value.int IntKind.i64 0, Value.int IntKind.i64 0] := BuildT.of Tryz.underlying118 Tryz.zeroValue118 (fun w => by kernel_rfl) (by decide)
instance fa119_0 : FieldAt Tryz.prog 119 0 0 := FieldAt.of (i := 0) Tryz.underlying119 rfl ty116 (by decide)
instance fo119_0 : FieldOf Tryz.prog 119 0 0 true 7 := FieldOf.of (i := 0) Tryz.underlying119 rfl ty116
instance fa119_1 : FieldAt Tryz.prog 119 1 7 := FieldAt.of (i := 1) Tryz.underlying119 rfl ty3 (by decide)
instance fo119_1 : FieldOf Tryz.prog 119 1 7 false 1 := FieldOf.of (i := 1) Tryz.underlying119 rfl ty3
instance bt119 : BuildT Tryz.prog 119 [(0, 7), (7, 1)] [Value.int IntKind.i64 0, Value.int IntKind.i64 0, Value.string { data := #[] }, Value.string { data := #[] },
          Value.string { data := #[] }, Value.int IntKind.i64 0, Value.int IntKind.i64 0, Value.int IntKind.i64 0] := BuildT.of Tryz.underlying119 Tryz.zeroValue119 (fun w => by kernel_rfl) (by decide)
instance fo137_0 : FieldOf Tryz.prog 137 0 0 true 0 := FieldOf.of (i := 0) Tryz.underlying137 rfl ty136
instance fa137_1 : FieldAt Tryz.prog 137 1 0 := FieldAt.of (i := 1) Tryz.underlying137 rfl ty79 (by decide)
instance fo137_1 : FieldOf Tryz.prog 137 1 0 false 1 := FieldOf.of (i := 1) Tryz.underlying137 rfl ty79
instance bt137 : BuildT Tryz.prog 137 [(0, 0), (0, 1)] [Value.int IntKind.u32 0] := BuildT.of Tryz.underlying137 Tryz.zeroValue137 (fun w => by kernel_rfl) (by decide)
instance fo138_0 : FieldOf Tryz.prog 138 0 0 true 0 := FieldOf.of (i := 0) Tryz.underlying138 rfl ty136
instance fa138_1 : FieldAt Tryz.prog 138 1 0 := FieldAt.of (i := 1) Tryz.underlying138 rfl ty79 (by decide)
instance fo138_1 : FieldOf Tryz.prog 138 1 0 false 1 := FieldOf.of (i := 1) Tryz.underlying138 rfl ty79
instance bt138 : BuildT Tryz.prog 138 [(0, 0), (0, 1)] [Value.int IntKind.u32 0] := BuildT.of Tryz.underlying138 Tryz.zeroValue138 (fun w => by kernel_rfl) (by decide)
instance fo139_0 : FieldOf Tryz.prog 139 0 0 true 0 := FieldOf.of (i := 0) Tryz.underlying139 rfl ty78
instance fa139_1 : FieldAt Tryz.prog 139 1 0 := FieldAt.of (i := 1) Tryz.underlying139 rfl ty138 (by decide)
instance fo139_1 : FieldOf Tryz.prog 139 1 0 true 1 := FieldOf.of (i := 1) Tryz.underlying139 rfl ty138
instance fa139_2 : FieldAt Tryz.prog 139 2 1 := FieldAt.of (i := 2) Tryz.underlying139 rfl ty83 (by decide)
instance fo139_2 : FieldOf Tryz.prog 139 2 1 true 2 := FieldOf.of (i := 2) Tryz.underlying139 rfl ty83
instance bt139 : BuildT Tryz.prog 139 [(0, 0), (0, 1), (1, 2)] [Value.int IntKind.u32 0, Value.int IntKind.i32 0, Value.int IntKind.u32 0] := BuildT.of Tryz.underlying139 Tryz.zeroValue139 (fun w => by kernel_rfl) (by decide)
instance fo140_0 : FieldOf Tryz.prog 140 0 0 true 0 := FieldOf.of (i := 0) Tryz.underlying140 rfl ty78
instance fa140_1 : FieldAt Tryz.prog 140 1 0 := FieldAt.of (i := 1) Tryz.underlying140 rfl ty138 (by decide)
instance fo140_1 : FieldOf Tryz.prog 140 1 0 true 1 := FieldOf.of (i := 1) Tryz.underlying140 rfl ty138
instance fa140_2 : FieldAt Tryz.prog 140 2 1 := FieldAt.of (i := 2) Tryz.underlying140 rfl ty83 (by decide)
instance fo140_2 : FieldOf Tryz.prog 140 2 1 true 2 := FieldOf.of (i := 2) Tryz.underlying140 rfl ty83
instance bt140 : BuildT Tryz.prog 140 [(0, 0), (0, 1), (1, 2)] [Value.int IntKind.u32 0, Value.int IntKind.i32 0, Value.int IntKind.u32 0] := BuildT.of Tryz.underlying140 Tryz.zeroValue140 (fun w => by kernel_rfl) (by decide)
instance fa143_0 : FieldAt Tryz.prog 143 0 0 := FieldAt.of (i := 0) Tryz.underlying143 rfl ty142 (by decide)
instance fo143_0 : FieldOf Tryz.prog 143 0 0 false 1 := FieldOf.of (i := 0) Tryz.underlying143 rfl ty142
instance fa143_1 : FieldAt Tryz.prog 143 1 1 := FieldAt.of (i := 1) Tryz.underlying143 rfl ty49 (by decide)
instance fo143_1 : FieldOf Tryz.prog 143 1 1 false 1 := FieldOf.of (i := 1) Tryz.underlying143 rfl ty49
instance bt143 : BuildT Tryz.prog 143 [(0, 1), (1, 1)] [Value.pointer none, Value.slice none 0 0] := BuildT.of Tryz.underlying143 Tryz.zeroValue143 (fun w => by kernel_rfl) (by decide)
instance fa144_0 : FieldAt Tryz.prog 144 0 0 := FieldAt.of (i := 0) Tryz.underlying144 rfl ty142 (by decide)
instance fo144_0 : FieldOf Tryz.prog 144 0 0 false 1 := FieldOf.of (i := 0) Tryz.underlying144 rfl ty142
instance fa144_1 : FieldAt Tryz.prog 144 1 1 := FieldAt.of (i := 1) Tryz.underlying144 rfl ty49 (by decide)
instance fo144_1 : FieldOf Tryz.prog 144 1 1 false 1 := FieldOf.of (i := 1) Tryz.underlying144 rfl ty49
instance bt144 : BuildT Tryz.prog 144 [(0, 1), (1, 1)] [Value.pointer none, Value.slice none 0 0] := BuildT.of Tryz.underlying144 Tryz.zeroValue144 (fun w => by kernel_rfl) (by decide)
instance fa162_0 : FieldAt Tryz.prog 162 0 0 := FieldAt.of (i := 0) Tryz.underlying162 rfl ty9 (by decide)
instance fo162_0 : FieldOf Tryz.prog 162 0 0 false 1 := FieldOf.of (i := 0) Tryz.underlying162 rfl ty9
instance fa162_1 : FieldAt Tryz.prog 162 1 1 := FieldAt.of (i := 1) Tryz.underlying162 rfl ty9 (by decide)
instance fo162_1 : FieldOf Tryz.prog 162 1 1 false 1 := FieldOf.of (i := 1) Tryz.underlying162 rfl ty9
instance fa162_2 : FieldAt Tryz.prog 162 2 2 := FieldAt.of (i := 2) Tryz.underlying162 rfl ty3 (by decide)
instance fo162_2 : FieldOf Tryz.prog 162 2 2 false 1 := FieldOf.of (i := 2) Tryz.underlying162 rfl ty3
instance fa162_3 : FieldAt Tryz.prog 162 3 3 := FieldAt.of (i := 3) Tryz.underlying162 rfl ty3 (by decide)
instance fo162_3 : FieldOf Tryz.prog 162 3 3 false 1 := FieldOf.of (i := 3) Tryz.underlying162 rfl ty3
instance bt162 : BuildT Tryz.prog 162 [(0, 1), (1, 1), (2, 1), (3, 1)] [Value.string { data := #[] }, Value.string { data := #[] }, Value.int IntKind.i64 0, Value.int IntKind.i64 0] := BuildT.of Tryz.underlying162 Tryz.zeroValue162 (fun w => by kernel_rfl) (by decide)
instance fa163_0 : FieldAt Tryz.prog 163 0 0 := FieldAt.of (i := 0) Tryz.underlying163 rfl ty9 (by decide)
instance fo163_0 : FieldOf Tryz.prog 163 0 0 false 1 := FieldOf.of (i := 0) Tryz.underlying163 rfl ty9
instance fa163_1 : FieldAt Tryz.prog 163 1 1 := FieldAt.of (i := 1) Tryz.underlying163 rfl ty9 (by decide)
instance fo163_1 : FieldOf Tryz.prog 163 1 1 false 1 := FieldOf.of (i := 1) Tryz.underlying163 rfl ty9
instance fa163_2 : FieldAt Tryz.prog 163 2 2 := FieldAt.of (i := 2) Tryz.underlying163 rfl ty3 (by decide)
instance fo163_2 : FieldOf Tryz.prog 163 2 2 false 1 := FieldOf.of (i := 2) Tryz.underlying163 rfl ty3
instance fa163_3 : FieldAt Tryz.prog 163 3 3 := FieldAt.of (i := 3) Tryz.underlying163 rfl ty3 (by decide)
instance fo163_3 : FieldOf Tryz.prog 163 3 3 false 1 := FieldOf.of (i := 3) Tryz.underlying163 rfl ty3
instance bt163 : BuildT Tryz.prog 163 [(0, 1), (1, 1), (2, 1), (3, 1)] [Value.string { data := #[] }, Value.string { data := #[] }, Value.int IntKind.i64 0, Value.int IntKind.i64 0] := BuildT.of Tryz.underlying163 Tryz.zeroValue163 (fun w => by kernel_rfl) (by decide)
instance fa168_0 : FieldAt Tryz.prog 168 0 0 := FieldAt.of (i := 0) Tryz.underlying168 rfl ty9 (by decide)
instance fo168_0 : FieldOf Tryz.prog 168 0 0 false 1 := FieldOf.of (i := 0) Tryz.underlying168 rfl ty9
instance fa168_1 : FieldAt Tryz.prog 168 1 1 := FieldAt.of (i := 1) Tryz.underlying168 rfl ty9 (by decide)
instance fo168_1 : FieldOf Tryz.prog 168 1 1 false 1 := FieldOf.of (i := 1) Tryz.underlying168 rfl ty9
instance fa168_2 : FieldAt Tryz.prog 168 2 2 := FieldAt.of (i := 2) Tryz.underlying168 rfl ty3 (by decide)
instance fo168_2 : FieldOf Tryz.prog 168 2 2 false 1 := FieldOf.of (i := 2) Tryz.underlying168 rfl ty3
instance bt168 : BuildT Tryz.prog 168 [(0, 1), (1, 1), (2, 1)] [Value.string { data := #[] }, Value.string { data := #[] }, Value.int IntKind.i64 0] := BuildT.of Tryz.underlying168 Tryz.zeroValue168 (fun w => by kernel_rfl) (by decide)
instance fa169_0 : FieldAt Tryz.prog 169 0 0 := FieldAt.of (i := 0) Tryz.underlying169 rfl ty9 (by decide)
instance fo169_0 : FieldOf Tryz.prog 169 0 0 false 1 := FieldOf.of (i := 0) Tryz.underlying169 rfl ty9
instance fa169_1 : FieldAt Tryz.prog 169 1 1 := FieldAt.of (i := 1) Tryz.underlying169 rfl ty9 (by decide)
instance fo169_1 : FieldOf Tryz.prog 169 1 1 false 1 := FieldOf.of (i := 1) Tryz.underlying169 rfl ty9
instance fa169_2 : FieldAt Tryz.prog 169 2 2 := FieldAt.of (i := 2) Tryz.underlying169 rfl ty3 (by decide)
instance fo169_2 : FieldOf Tryz.prog 169 2 2 false 1 := FieldOf.of (i := 2) Tryz.underlying169 rfl ty3
instance bt169 : BuildT Tryz.prog 169 [(0, 1), (1, 1), (2, 1)] [Value.string { data := #[] }, Value.string { data := #[] }, Value.int IntKind.i64 0] := BuildT.of Tryz.underlying169 Tryz.zeroValue169 (fun w => by kernel_rfl) (by decide)
instance fa180_0 : FieldAt Tryz.prog 180 0 0 := FieldAt.of (i := 0) Tryz.underlying180 rfl ty3 (by decide)
instance fo180_0 : FieldOf Tryz.prog 180 0 0 false 1 := FieldOf.of (i := 0) Tryz.underlying180 rfl ty3
instance fa180_1 : FieldAt Tryz.prog 180 1 1 := FieldAt.of (i := 1) Tryz.underlying180 rfl ty3 (by decide)
instance fo180_1 : FieldOf Tryz.prog 180 1 1 false 1 := FieldOf.of (i := 1) Tryz.underlying180 rfl ty3
instance fa180_2 : FieldAt Tryz.prog 180 2 2 := FieldAt.of (i := 2) Tryz.underlying180 rfl ty3 (by decide)
instance fo180_2 : FieldOf Tryz.prog 180 2 2 false 1 := FieldOf.of (i := 2) Tryz.underlying180 rfl ty3
instance fa180_3 : FieldAt Tryz.prog 180 3 3 := FieldAt.of (i := 3) Tryz.underlying180 rfl ty9 (by decide)
instance fo180_3 : FieldOf Tryz.prog 180 3 3 false 1 := FieldOf.of (i := 3) Tryz.underlying180 rfl ty9
instance bt180 : BuildT Tryz.prog 180 [(0, 1), (1, 1), (2, 1), (3, 1)] [Value.int IntKind.i64 0, Value.int IntKind.i64 0, Value.int IntKind.i64 0, Value.string { data := #[] }] := BuildT.of Tryz.underlying180 Tryz.zeroValue180 (fun w => by kernel_rfl) (by decide)
instance fa181_0 : FieldAt Tryz.prog 181 0 0 := FieldAt.of (i := 0) Tryz.underlying181 rfl ty3 (by decide)
instance fo181_0 : FieldOf Tryz.prog 181 0 0 false 1 := FieldOf.of (i := 0) Tryz.underlying181 rfl ty3
instance fa181_1 : FieldAt Tryz.prog 181 1 1 := FieldAt.of (i := 1) Tryz.underlying181 rfl ty3 (by decide)
instance fo181_1 : FieldOf Tryz.prog 181 1 1 false 1 := FieldOf.of (i := 1) Tryz.underlying181 rfl ty3
instance fa181_2 : FieldAt Tryz.prog 181 2 2 := FieldAt.of (i := 2) Tryz.underlying181 rfl ty3 (by decide)
instance fo181_2 : FieldOf Tryz.prog 181 2 2 false 1 := FieldOf.of (i := 2) Tryz.underlying181 rfl ty3
instance fa181_3 : FieldAt Tryz.prog 181 3 3 := FieldAt.of (i := 3) Tryz.underlying181 rfl ty9 (by decide)
instance fo181_3 : FieldOf Tryz.prog 181 3 3 false 1 := FieldOf.of (i := 3) Tryz.underlying181 rfl ty9
instance bt181 : BuildT Tryz.prog 181 [(0, 1), (1, 1), (2, 1), (3, 1)] [Value.int IntKind.i64 0, Value.int IntKind.i64 0, Value.int IntKind.i64 0, Value.string { data := #[] }] := BuildT.of Tryz.underlying181 Tryz.zeroValue181 (fun w => by kernel_rfl) (by decide)
instance fa243_0 : FieldAt Tryz.prog 243 0 0 := FieldAt.of (i := 0) Tryz.underlying243 rfl ty9 (by decide)
instance fo243_0 : FieldOf Tryz.prog 243 0 0 false 1 := FieldOf.of (i := 0) Tryz.underlying243 rfl ty9
instance fa243_1 : FieldAt Tryz.prog 243 1 1 := FieldAt.of (i := 1) Tryz.underlying243 rfl ty3 (by decide)
instance fo243_1 : FieldOf Tryz.prog 243 1 1 false 1 := FieldOf.of (i := 1) Tryz.underlying243 rfl ty3
instance fa243_2 : FieldAt Tryz.prog 243 2 2 := FieldAt.of (i := 2) Tryz.underlying243 rfl ty240 (by decide)
instance fo243_2 : FieldOf Tryz.prog 243 2 2 true 256 := FieldOf.of (i := 2) Tryz.underlying243 rfl ty240
instance fa243_3 : FieldAt Tryz.prog 243 3 258 := FieldAt.of (i := 3) Tryz.underlying243 rfl ty185 (by decide)
instance fo243_3 : FieldOf Tryz.prog 243 3 258 false 1 := FieldOf.of (i := 3) Tryz.underlying243 rfl ty185
instance fa244_0 : FieldAt Tryz.prog 244 0 0 := FieldAt.of (i := 0) Tryz.underlying244 rfl ty9 (by decide)
instance fo244_0 : FieldOf Tryz.prog 244 0 0 false 1 := FieldOf.of (i := 0) Tryz.underlying244 rfl ty9
instance fa244_1 : FieldAt Tryz.prog 244 1 1 := FieldAt.of (i := 1) Tryz.underlying244 rfl ty3 (by decide)
instance fo244_1 : FieldOf Tryz.prog 244 1 1 false 1 := FieldOf.of (i := 1) Tryz.underlying244 rfl ty3
instance fa244_2 : FieldAt Tryz.prog 244 2 2 := FieldAt.of (i := 2) Tryz.underlying244 rfl ty240 (by decide)
instance fo244_2 : FieldOf Tryz.prog 244 2 2 true 256 := FieldOf.of (i := 2) Tryz.underlying244 rfl ty240
instance fa244_3 : FieldAt Tryz.prog 244 3 258 := FieldAt.of (i := 3) Tryz.underlying244 rfl ty185 (by decide)
instance fo244_3 : FieldOf Tryz.prog 244 3 258 false 1 := FieldOf.of (i := 3) Tryz.underlying244 rfl ty185
instance fa276_0 : FieldAt Tryz.prog 276 0 0 := FieldAt.of (i := 0) Tryz.underlying276 rfl ty3 (by decide)
instance fo276_0 : FieldOf Tryz.prog 276 0 0 false 1 := FieldOf.of (i := 0) Tryz.underlying276 rfl ty3
instance fa276_1 : FieldAt Tryz.prog 276 1 1 := FieldAt.of (i := 1) Tryz.underlying276 rfl ty3 (by decide)
instance fo276_1 : FieldOf Tryz.prog 276 1 1 false 1 := FieldOf.of (i := 1) Tryz.underlying276 rfl ty3
instance bt276 : BuildT Tryz.prog 276 [(0, 1), (1, 1)] [Value.int IntKind.i64 0, Value.int IntKind.i64 0] := BuildT.of Tryz.underlying276 Tryz.zeroValue276 (fun w => by kernel_rfl) (by decide)
instance fa277_0 : FieldAt Tryz.prog 277 0 0 := FieldAt.of (i := 0) Tryz.underlying277 rfl ty3 (by decide)
instance fo277_0 : FieldOf Tryz.prog 277 0 0 false 1 := FieldOf.of (i := 0) Tryz.underlying277 rfl ty3
instance fa277_1 : FieldAt Tryz.prog 277 1 1 := FieldAt.of (i := 1) Tryz.underlying277 rfl ty3 (by decide)
instance fo277_1 : FieldOf Tryz.prog 277 1 1 false 1 := FieldOf.of (i := 1) Tryz.underlying277 rfl ty3
instance bt277 : BuildT Tryz.prog 277 [(0, 1), (1, 1)] [Value.int IntKind.i64 0, Value.int IntKind.i64 0] := BuildT.of Tryz.underlying277 Tryz.zeroValue277 (fun w => by kernel_rfl) (by decide)
instance fa283_0 : FieldAt Tryz.prog 283 0 0 := FieldAt.of (i := 0) Tryz.underlying283 rfl ty281 (by decide)
instance fo283_0 : FieldOf Tryz.prog 283 0 0 false 1 := FieldOf.of (i := 0) Tryz.underlying283 rfl ty281
instance fa283_1 : FieldAt Tryz.prog 283 1 1 := FieldAt.of (i := 1) Tryz.underlying283 rfl ty282 (by decide)
instance fo283_1 : FieldOf Tryz.prog 283 1 1 false 1 := FieldOf.of (i := 1) Tryz.underlying283 rfl ty282
instance fa283_2 : FieldAt Tryz.prog 283 2 2 := FieldAt.of (i := 2) Tryz.underlying283 rfl ty3 (by decide)
instance fo283_2 : FieldOf Tryz.prog 283 2 2 false 1 := FieldOf.of (i := 2) Tryz.underlying283 rfl ty3
instance bt283 : BuildT Tryz.prog 283 [(0, 1), (1, 1), (2, 1)] [Value.slice none 0 0, Value.slice none 0 0, Value.int IntKind.i64 0] := BuildT.of Tryz.underlying283 Tryz.zeroValue283 (fun w => by kernel_rfl) (by decide)
instance fa284_0 : FieldAt Tryz.prog 284 0 0 := FieldAt.of (i := 0) Tryz.underlying284 rfl ty281 (by decide)
instance fo284_0 : FieldOf Tryz.prog 284 0 0 false 1 := FieldOf.of (i := 0) Tryz.underlying284 rfl ty281
instance fa284_1 : FieldAt Tryz.prog 284 1 1 := FieldAt.of (i := 1) Tryz.underlying284 rfl ty282 (by decide)
instance fo284_1 : FieldOf Tryz.prog 284 1 1 false 1 := FieldOf.of (i := 1) Tryz.underlying284 rfl ty282
instance fa284_2 : FieldAt Tryz.prog 284 2 2 := FieldAt.of (i := 2) Tryz.underlying284 rfl ty3 (by decide)
instance fo284_2 : FieldOf Tryz.prog 284 2 2 false 1 := FieldOf.of (i := 2) Tryz.underlying284 rfl ty3
instance bt284 : BuildT Tryz.prog 284 [(0, 1), (1, 1), (2, 1)] [Value.slice none 0 0, Value.slice none 0 0, Value.int IntKind.i64 0] := BuildT.of Tryz.underlying284 Tryz.zeroValue284 (fun w => by kernel_rfl) (by decide)
instance fa286_0 : FieldAt Tryz.prog 286 0 0 := FieldAt.of (i := 0) Tryz.underlying286 rfl ty285 (by decide)
instance fo286_0 : FieldOf Tryz.prog 286 0 0 false 1 := FieldOf.of (i := 0) Tryz.underlying286 rfl ty285
instance fa286_1 : FieldAt Tryz.prog 286 1 1 := FieldAt.of (i := 1) Tryz.underlying286 rfl ty285 (by decide)
instance fo286_1 : FieldOf Tryz.prog 286 1 1 false 1 := FieldOf.of (i := 1) Tryz.underlying286 rfl ty285
instance fa286_2 : FieldAt Tryz.prog 286 2 2 := FieldAt.of (i := 2) Tryz.underlying286 rfl ty285 (by decide)
instance fo286_2 : FieldOf Tryz.prog 286 2 2 false 1 := FieldOf.of (i := 2) Tryz.underlying286 rfl ty285
instance bt286 : BuildT Tryz.prog 286 [(0, 1), (1, 1), (2, 1)] [Value.int IntKind.u16 0, Value.int IntKind.u16 0, Value.int IntKind.u16 0] := BuildT.of Tryz.underlying286 Tryz.zeroValue286 (fun w => by kernel_rfl) (by decide)
instance fa287_0 : FieldAt Tryz.prog 287 0 0 := FieldAt.of (i := 0) Tryz.underlying287 rfl ty285 (by decide)
instance fo287_0 : FieldOf Tryz.prog 287 0 0 false 1 := FieldOf.of (i := 0) Tryz.underlying287 rfl ty285
instance fa287_1 : FieldAt Tryz.prog 287 1 1 := FieldAt.of (i := 1) Tryz.underlying287 rfl ty285 (by decide)
instance fo287_1 : FieldOf Tryz.prog 287 1 1 false 1 := FieldOf.of (i := 1) Tryz.underlying287 rfl ty285
instance fa287_2 : FieldAt Tryz.prog 287 2 2 := FieldAt.of (i := 2) Tryz.underlying287 rfl ty285 (by decide)
instance fo287_2 : FieldOf Tryz.prog 287 2 2 false 1 := FieldOf.of (i := 2) Tryz.underlying287 rfl ty285
instance bt287 : BuildT Tryz.prog 287 [(0, 1), (1, 1), (2, 1)] [Value.int IntKind.u16 0, Value.int IntKind.u16 0, Value.int IntKind.u16 0] := BuildT.of Tryz.underlying287 Tryz.zeroValue287 (fun w => by kernel_rfl) (by decide)
instance fa289_0 : FieldAt Tryz.prog 289 0 0 := FieldAt.of (i := 0) Tryz.underlying289 rfl ty79 (by decide)
instance fo289_0 : FieldOf Tryz.prog 289 0 0 false 1 := FieldOf.of (i := 0) Tryz.underlying289 rfl ty79
instance fa289_1 : FieldAt Tryz.prog 289 1 1 := FieldAt.of (i := 1) Tryz.underlying289 rfl ty79 (by decide)
instance fo289_1 : FieldOf Tryz.prog 289 1 1 false 1 := FieldOf.of (i := 1) Tryz.underlying289 rfl ty79
instance fa289_2 : FieldAt Tryz.prog 289 2 2 := FieldAt.of (i := 2) Tryz.underlying289 rfl ty79 (by decide)
instance fo289_2 : FieldOf Tryz.prog 289 2 2 false 1 := FieldOf.of (i := 2) Tryz.underlying289 rfl ty79
instance bt289 : BuildT Tryz.prog 289 [(0, 1), (1, 1), (2, 1)] [Value.int IntKind.u32 0, Value.int IntKind.u32 0, Value.int IntKind.u32 0] := BuildT.of Tryz.underlying289 Tryz.zeroValue289 (fun w => by kernel_rfl) (by decide)
instance fa290_0 : FieldAt Tryz.prog 290 0 0 := FieldAt.of (i := 0) Tryz.underlying290 rfl ty79 (by decide)
instance fo290_0 : FieldOf Tryz.prog 290 0 0 false 1 := FieldOf.of (i := 0) Tryz.underlying290 rfl ty79
instance fa290_1 : FieldAt Tryz.prog 290 1 1 := FieldAt.of (i := 1) Tryz.underlying290 rfl ty79 (by decide)
instance fo290_1 : FieldOf Tryz.prog 290 1 1 false 1 := FieldOf.of (i := 1) Tryz.underlying290 rfl ty79
instance fa290_2 : FieldAt Tryz.prog 290 2 2 := FieldAt.of (i := 2) Tryz.underlying290 rfl ty79 (by decide)
instance fo290_2 : FieldOf Tryz.prog 290 2 2 false 1 := FieldOf.of (i := 2) Tryz.underlying290 rfl ty79
instance bt290 : BuildT Tryz.prog 290 [(0, 1), (1, 1), (2, 1)] [Value.int IntKind.u32 0, Value.int IntKind.u32 0, Value.int IntKind.u32 0] := BuildT.of Tryz.underlying290 Tryz.zeroValue290 (fun w => by kernel_rfl) (by decide)
instance fa294_0 : FieldAt Tryz.prog 294 0 0 := FieldAt.of (i := 0) Tryz.underlying294 rfl ty17 (by decide)
instance fo294_0 : FieldOf Tryz.prog 294 0 0 false 1 := FieldOf.of (i := 0) Tryz.underlying294 rfl ty17
instance fa294_1 : FieldAt Tryz.prog 294 1 1 := FieldAt.of (i := 1) Tryz.underlying294 rfl ty17 (by decide)
instance fo294_1 : FieldOf Tryz.prog 294 1 1 false 1 := FieldOf.of (i := 1) Tryz.underlying294 rfl ty17
instance fa294_2 : FieldAt Tryz.prog 294 2 2 := FieldAt.of (i := 2) Tryz.underlying294 rfl ty17 (by decide)
instance fo294_2 : FieldOf Tryz.prog 294 2 2 false 1 := FieldOf.of (i := 2) Tryz.underlying294 rfl ty17
instance fa294_3 : FieldAt Tryz.prog 294 3 3 := FieldAt.of (i := 3) Tryz.underlying294 rfl ty9 (by decide)
instance fo294_3 : FieldOf Tryz.prog 294 3 3 false 1 := FieldOf.of (i := 3) Tryz.underlying294 rfl ty9
instance bt294 : BuildT Tryz.prog 294 [(0, 1), (1, 1), (2, 1), (3, 1)] [Value.pointer none, Value.pointer none, Value.pointer none, Value.string { data := #[] }] := BuildT.of Tryz.underlying294 Tryz.zeroValue294 (fun w => by kernel_rfl) (by decide)
instance fa295_0 : FieldAt Tryz.prog 295 0 0 := FieldAt.of (i := 0) Tryz.underlying295 rfl ty17 (by decide)
instance fo295_0 : FieldOf Tryz.prog 295 0 0 false 1 := FieldOf.of (i := 0) Tryz.underlying295 rfl ty17
instance fa295_1 : FieldAt Tryz.prog 295 1 1 := FieldAt.of (i := 1) Tryz.underlying295 rfl ty17 (by decide)
instance fo295_1 : FieldOf Tryz.prog 295 1 1 false 1 := FieldOf.of (i := 1) Tryz.underlying295 rfl ty17
instance fa295_2 : FieldAt Tryz.prog 295 2 2 := FieldAt.of (i := 2) Tryz.underlying295 rfl ty17 (by decide)
instance fo295_2 : FieldOf Tryz.prog 295 2 2 false 1 := FieldOf.of (i := 2) Tryz.underlying295 rfl ty17
instance fa295_3 : FieldAt Tryz.prog 295 3 3 := FieldAt.of (i := 3) Tryz.underlying295 rfl ty9 (by decide)
instance fo295_3 : FieldOf Tryz.prog 295 3 3 false 1 := FieldOf.of (i := 3) Tryz.underlying295 rfl ty9
instance bt295 : BuildT Tryz.prog 295 [(0, 1), (1, 1), (2, 1), (3, 1)] [Value.pointer none, Value.pointer none, Value.pointer none, Value.string { data := #[] }] := BuildT.of Tryz.underlying295 Tryz.zeroValue295 (fun w => by kernel_rfl) (by decide)
instance fo297_0 : FieldOf Tryz.prog 297 0 0 true 0 := FieldOf.of (i := 0) Tryz.underlying297 rfl ty296
instance bt297 : BuildT Tryz.prog 297 [(0, 0)] [] := BuildT.of Tryz.underlying297 Tryz.zeroValue297 (fun w => by kernel_rfl) (by decide)
instance fo298_0 : FieldOf Tryz.prog 298 0 0 true 0 := FieldOf.of (i := 0) Tryz.underlying298 rfl ty296
instance bt298 : BuildT Tryz.prog 298 [(0, 0)] [] := BuildT.of Tryz.underlying298 Tryz.zeroValue298 (fun w => by kernel_rfl) (by decide)
instance fa304_0 : FieldAt Tryz.prog 304 0 0 := FieldAt.of (i := 0) Tryz.underlying304 rfl ty12 (by decide)
instance fo304_0 : FieldOf Tryz.prog 304 0 0 false 1 := FieldOf.of (i := 0) Tryz.underlying304 rfl ty12
instance fa304_1 : FieldAt Tryz.prog 304 1 1 := FieldAt.of (i := 1) Tryz.underlying304 rfl ty12 (by decide)
instance fo304_1 : FieldOf Tryz.prog 304 1 1 false 1 := FieldOf.of (i := 1) Tryz.underlying304 rfl ty12
instance fa304_2 : FieldAt Tryz.prog 304 2 2 := FieldAt.of (i := 2) Tryz.underlying304 rfl ty79 (by decide)
instance fo304_2 : FieldOf Tryz.prog 304 2 2 false 1 := FieldOf.of (i := 2) Tryz.underlying304 rfl ty79
instance fa304_3 : FieldAt Tryz.prog 304 3 3 := FieldAt.of (i := 3) Tryz.underlying304 rfl ty299 (by decide)
instance fo304_3 : FieldOf Tryz.prog 304 3 3 false 1 := FieldOf.of (i := 3) Tryz.underlying304 rfl ty299
instance fa304_4 : FieldAt Tryz.prog 304 4 4 := FieldAt.of (i := 4) Tryz.underlying304 rfl ty5 (by decide)
instance fo304_4 : FieldOf Tryz.prog 304 4 4 false 1 := FieldOf.of (i := 4) Tryz.underlying304 rfl ty5
instance fa304_5 : FieldAt Tryz.prog 304 5 5 := FieldAt.of (i := 5) Tryz.underlying304 rfl ty5 (by decide)
instance fo304_5 : FieldOf Tryz.prog 304 5 5 false 1 := FieldOf.of (i := 5) Tryz.underlying304 rfl ty5
instance fa304_6 : FieldAt Tryz.prog 304 6 6 := FieldAt.of (i := 6) Tryz.underlying304 rfl ty300 (by decide)
instance fo304_6 : FieldOf Tryz.prog 304 6 6 false 1 := FieldOf.of (i := 6) Tryz.underlying304 rfl ty300
instance fa304_7 : FieldAt Tryz.prog 304 7 7 := FieldAt.of (i := 7) Tryz.underlying304 rfl ty301 (by decide)
instance fo304_7 : FieldOf Tryz.prog 304 7 7 false 1 := FieldOf.of (i := 7) Tryz.underlying304 rfl ty301
instance fa304_8 : FieldAt Tryz.prog 304 8 8 := FieldAt.of (i := 8) Tryz.underlying304 rfl ty186 (by decide)
instance fo304_8 : FieldOf Tryz.prog 304 8 8 false 1 := FieldOf.of (i := 8) Tryz.underlying304 rfl ty186
instance fa304_9 : FieldAt Tryz.prog 304 9 9 := FieldAt.of (i := 9) Tryz.underlying304 rfl ty302 (by decide)
instance fo304_9 : FieldOf Tryz.prog 304 9 9 false 1 := FieldOf.of (i := 9) Tryz.underlying304 rfl ty302
instance fa304_10 : FieldAt Tryz.prog 304 10 10 := FieldAt.of (i := 10) Tryz.underlying304 rfl ty303 (by decide)
instance fo304_10 : FieldOf Tryz.prog 304 10 10 false 1 := FieldOf.of (i := 10) Tryz.underlying304 rfl ty303
instance bt304 : BuildT Tryz.prog 304 [(0, 1), (1, 1), (2, 1), (3, 1), (4, 1), (5, 1), (6, 1), (7, 1), (8, 1), (9, 1), (10, 1)] [Value.int IntKind.u64 0, Value.int IntKind.u64 0, Value.int IntKind.u32 0, Value.int IntKind.u8 0,
          Value.int IntKind.u8 0, Value.int IntKind.u8 0, Value.int IntKind.u8 0, Value.nilFunc, Value.pointer none,
          Value.int IntKind.i32 0, Value.int IntKind.i32 0] := BuildT.of Tryz.underlying304 Tryz.zeroValue304 (fun w => by kernel_rfl) (by decide)
instance fa305_0 : FieldAt Tryz.prog 305 0 0 := FieldAt.of (i := 0) Tryz.underlying305 rfl ty12 (by decide)
instance fo305_0 : FieldOf Tryz.prog 305 0 0 false 1 := FieldOf.of (i := 0) Tryz.underlying305 rfl ty12
instance fa305_1 : FieldAt Tryz.prog 305 1 1 := FieldAt.of (i := 1) Tryz.underlying305 rfl ty12 (by decide)
instance fo305_1 : FieldOf Tryz.prog 305 1 1 false 1 := FieldOf.of (i := 1) Tryz.underlying305 rfl ty12
instance fa305_2 : FieldAt Tryz.prog 305 2 2 := FieldAt.of (i := 2) Tryz.underlying305 rfl ty79 (by decide)
instance fo305_2 : FieldOf Tryz.prog 305 2 2 false 1 := FieldOf.of (i := 2) Tryz.underlying305 rfl ty79
instance fa305_3 : FieldAt Tryz.prog 305 3 3 := FieldAt.of (i := 3) Tryz.underlying305 rfl ty299 (by decide)
instance fo305_3 : FieldOf Tryz.prog 305 3 3 false 1 := FieldOf.of (i := 3) Tryz.underlying305 rfl ty299
instance fa305_4 : FieldAt Tryz.prog 305 4 4 := FieldAt.of (i := 4) Tryz.underlying305 rfl ty5 (by decide)
instance fo305_4 : FieldOf Tryz.prog 305 4 4 false 1 := FieldOf.of (i := 4) Tryz.underlying305 rfl ty5
instance fa305_5 : FieldAt Tryz.prog 305 5 5 := FieldAt.of (i := 5) Tryz.underlying305 rfl ty5 (by decide)
instance fo305_5 : FieldOf Tryz.prog 305 5 5 false 1 := FieldOf.of (i := 5) Tryz.underlying305 rfl ty5
instance fa305_6 : FieldAt Tryz.prog 305 6 6 := FieldAt.of (i := 6) Tryz.underlying305 rfl ty300 (by decide)
instance fo305_6 : FieldOf Tryz.prog 305 6 6 false 1 := FieldOf.of (i := 6) Tryz.underlying305 rfl ty300
instance fa305_7 : FieldAt Tryz.prog 305 7 7 := FieldAt.of (i := 7) Tryz.underlying305 rfl ty301 (by decide)
instance fo305_7 : FieldOf Tryz.prog 305 7 7 false 1 := FieldOf.of (i := 7) Tryz.underlying305 rfl ty301
instance fa305_8 : FieldAt Tryz.prog 305 8 8 := FieldAt.of (i := 8) Tryz.underlying305 rfl ty186 (by decide)
instance fo305_8 : FieldOf Tryz.prog 305 8 8 false 1 := FieldOf.of (i := 8) Tryz.underlying305 rfl ty186
instance fa305_9 : FieldAt Tryz.prog 305 9 9 := FieldAt.of (i := 9) Tryz.underlying305 rfl ty302 (by decide)
instance fo305_9 : FieldOf Tryz.prog 305 9 9 false 1 := FieldOf.of (i := 9) Tryz.underlying305 rfl ty302
instance fa305_10 : FieldAt Tryz.prog 305 10 10 := FieldAt.of (i := 10) Tryz.underlying305 rfl ty303 (by decide)
instance fo305_10 : FieldOf Tryz.prog 305 10 10 false 1 := FieldOf.of (i := 10) Tryz.underlying305 rfl ty303
instance bt305 : BuildT Tryz.prog 305 [(0, 1), (1, 1), (2, 1), (3, 1), (4, 1), (5, 1), (6, 1), (7, 1), (8, 1), (9, 1), (10, 1)] [Value.int IntKind.u64 0, Value.int IntKind.u64 0, Value.int IntKind.u32 0, Value.int IntKind.u8 0,
          Value.int IntKind.u8 0, Value.int IntKind.u8 0, Value.int IntKind.u8 0, Value.nilFunc, Value.pointer none,
          Value.int IntKind.i32 0, Value.int IntKind.i32 0] := BuildT.of Tryz.underlying305 Tryz.zeroValue305 (fun w => by kernel_rfl) (by decide)
instance kk2 : KeyT Tryz.prog 2 (.int .i64) := ⟨Tryz.underlying2⟩
instance kk3 : KeyT Tryz.prog 3 (.int .i64) := ⟨Tryz.underlying3⟩
instance kk4 : KeyT Tryz.prog 4 (.bool) := ⟨Tryz.underlying4⟩
instance kk5 : KeyT Tryz.prog 5 (.int .u8) := ⟨Tryz.underlying5⟩
instance kk6 : KeyT Tryz.prog 6 (.int .u8) := ⟨Tryz.underlying6⟩
instance kk9 : KeyT Tryz.prog 9 (.str) := ⟨Tryz.underlying9⟩
instance kk10 : KeyT Tryz.prog 10 (.str) := ⟨Tryz.underlying10⟩
instance kk11 : KeyT Tryz.prog 11 (.str) := ⟨Tryz.underlying11⟩
instance kk12 : KeyT Tryz.prog 12 (.int .u64) := ⟨Tryz.underlying12⟩
instance kk21 : KeyT Tryz.prog 21 (.int .i32) := ⟨Tryz.underlying21⟩
instance kk39 : KeyT Tryz.prog 39 (.int .i64) := ⟨Tryz.underlying39⟩
instance kk79 : KeyT Tryz.prog 79 (.int .u32) := ⟨Tryz.underlying79⟩
instance kk154 : KeyT Tryz.prog 154 (.int .u64) := ⟨Tryz.underlying154⟩
instance kk190 : KeyT Tryz.prog 190 (.int .i64) := ⟨Tryz.underlying190⟩
instance kk198 : KeyT Tryz.prog 198 (.int .u64) := ⟨Tryz.underlying198⟩
instance kk225 : KeyT Tryz.prog 225 (.int .u64) := ⟨Tryz.underlying225⟩
instance kk285 : KeyT Tryz.prog 285 (.int .u16) := ⟨Tryz.underlying285⟩
instance kk299 : KeyT Tryz.prog 299 (.int .u8) := ⟨Tryz.underlying299⟩
instance kk300 : KeyT Tryz.prog 300 (.int .u8) := ⟨Tryz.underlying300⟩
instance kk302 : KeyT Tryz.prog 302 (.int .i32) := ⟨Tryz.underlying302⟩
instance kk303 : KeyT Tryz.prog 303 (.int .i32) := ⟨Tryz.underlying303⟩
instance fe38 : FlatEq Tryz.prog 38 [(0, .int .i64), (1, .int .i64), (2, .str), (3, .str), (4, .str), (5, .int .i64), (6, .int .i64)] := ⟨by kernel_rfl, by kernel_rfl, _, Tryz.underlying38, flat_cons (by decide) rfl Tryz.underlying3 (flat_cons (by decide) rfl Tryz.underlying3 (flat_cons (by decide) rfl Tryz.underlying9 (flat_cons (by decide) rfl Tryz.underlying9 (flat_cons (by decide) rfl Tryz.underlying9 (flat_cons (by decide) rfl Tryz.underlying3 (flat_cons (by decide) rfl Tryz.underlying3 (flat_nil)))))))⟩
instance fe70 : FlatEq Tryz.prog 70 [(0, .int .i64), (1, .int .i64), (2, .str), (3, .str), (4, .str), (5, .int .i64), (6, .int .i64)] := ⟨by kernel_rfl, by kernel_rfl, _, Tryz.underlying70, flat_cons (by decide) rfl Tryz.underlying3 (flat_cons (by decide) rfl Tryz.underlying3 (flat_cons (by decide) rfl Tryz.underlying9 (flat_cons (by decide) rfl Tryz.underlying9 (flat_cons (by decide) rfl Tryz.underlying9 (flat_cons (by decide) rfl Tryz.underlying3 (flat_cons (by decide) rfl Tryz.underlying3 (flat_nil)))))))⟩
instance fe96 : FlatEq Tryz.prog 96 [(0, .str), (1, .str)] := ⟨by kernel_rfl, by kernel_rfl, _, Tryz.underlying96, flat_cons (by decide) rfl Tryz.underlying9 (flat_cons (by decide) rfl Tryz.underlying9 (flat_nil))⟩
instance fe116 : FlatEq Tryz.prog 116 [(0, .int .i64), (1, .int .i64), (2, .str), (3, .str), (4, .str), (5, .int .i64), (6, .int .i64)] := ⟨by kernel_rfl, by kernel_rfl, _, Tryz.underlying116, flat_cons (by decide) rfl Tryz.underlying3 (flat_cons (by decide) rfl Tryz.underlying3 (flat_cons (by decide) rfl Tryz.underlying9 (flat_cons (by decide) rfl Tryz.underlying9 (flat_cons (by decide) rfl Tryz.underlying9 (flat_cons (by decide) rfl Tryz.underlying3 (flat_cons (by decide) rfl Tryz.underlying3 (flat_nil)))))))⟩
instance fe163 : FlatEq Tryz.prog 163 [(0, .str), (1, .str), (2, .int .i64), (3, .int .i64)] := ⟨by kernel_rfl, by kernel_rfl, _, Tryz.underlying163, flat_cons (by decide) rfl Tryz.underlying9 (flat_cons (by decide) rfl Tryz.underlying9 (flat_cons (by decide) rfl Tryz.underlying3 (flat_cons (by decide) rfl Tryz.underlying3 (flat_nil))))⟩
instance fe169 : FlatEq Tryz.prog 169 [(0, .str), (1, .str), (2, .int .i64)] := ⟨by kernel_rfl, by kernel_rfl, _, Tryz.underlying169, flat_cons (by decide) rfl Tryz.underlying9 (flat_cons (by decide) rfl Tryz.underlying9 (flat_cons (by decide) rfl Tryz.underlying3 (flat_nil)))⟩
instance fe181 : FlatEq Tryz.prog 181 [(0, .int .i64), (1, .int .i64), (2, .int .i64), (3, .str)] := ⟨by kernel_rfl, by kernel_rfl, _, Tryz.underlying181, flat_cons (by decide) rfl Tryz.underlying3 (flat_cons (by decide) rfl Tryz.underlying3 (flat_cons (by decide) rfl Tryz.underlying3 (flat_cons (by decide) rfl Tryz.underlying9 (flat_nil))))⟩
instance ae43 : ArrEq Tryz.prog 43 3 (.str) := ⟨by kernel_rfl, _, _, Tryz.underlying43, rfl, rfl, Tryz.underlying9⟩
instance ae86 : ArrEq Tryz.prog 86 3 (.int .i64) := ⟨by kernel_rfl, _, _, Tryz.underlying86, rfl, rfl, Tryz.underlying3⟩
instance ae231 : ArrEq Tryz.prog 231 24 (.int .u8) := ⟨by kernel_rfl, _, _, Tryz.underlying231, rfl, rfl, Tryz.underlying5⟩
instance ae240 : ArrEq Tryz.prog 240 256 (.int .i64) := ⟨by kernel_rfl, _, _, Tryz.underlying240, rfl, rfl, Tryz.underlying3⟩
instance ae257 : ArrEq Tryz.prog 257 20 (.int .u64) := ⟨by kernel_rfl, _, _, Tryz.underlying257, rfl, rfl, Tryz.underlying198⟩
instance ae258 : ArrEq Tryz.prog 258 65 (.int .u8) := ⟨by kernel_rfl, _, _, Tryz.underlying258, rfl, rfl, Tryz.underlying5⟩
instance ae265 : ArrEq Tryz.prog 265 256 (.int .u8) := ⟨by kernel_rfl, _, _, Tryz.underlying265, rfl, rfl, Tryz.underlying5⟩
instance ae273 : ArrEq Tryz.prog 273 32 (.int .u8) := ⟨by kernel_rfl, _, _, Tryz.underlying273, rfl, rfl, Tryz.underlying5⟩
instance ae274 : ArrEq Tryz.prog 274 64 (.int .u8) := ⟨by kernel_rfl, _, _, Tryz.underlying274, rfl, rfl, Tryz.underlying5⟩
instance en2 : Ent Tryz.prog 2 := ⟨Tryz.call2⟩
instance en3 : Ent Tryz.prog 3 := ⟨Tryz.call3⟩
instance en4 : Ent Tryz.prog 4 := ⟨Tryz.call4⟩
instance en5 : Ent Tryz.prog 5 := ⟨Tryz.call5⟩
instance en6 : Ent Tryz.prog 6 := ⟨Tryz.call6⟩
instance en7 : Ent Tryz.prog 7 := ⟨Tryz.call7⟩
instance en8 : Ent Tryz.prog 8 := ⟨Tryz.call8⟩
instance en9 : Ent Tryz.prog 9 := ⟨Tryz.call9⟩
instance en10 : Ent Tryz.prog 10 := ⟨Tryz.call10⟩
instance en11 : Ent Tryz.prog 11 := ⟨Tryz.call11⟩
instance en12 : Ent Tryz.prog 12 := ⟨Tryz.call12⟩
instance en13 : Ent Tryz.prog 13 := ⟨Tryz.call13⟩
instance en14 : Ent Tryz.prog 14 := ⟨Tryz.call14⟩
instance en15 : Ent Tryz.prog 15 := ⟨Tryz.call15⟩
instance en16 : Ent Tryz.prog 16 := ⟨Tryz.call16⟩
instance en17 : Ent Tryz.prog 17 := ⟨Tryz.call17⟩
instance en18 : Ent Tryz.prog 18 := ⟨Tryz.call18⟩
instance en19 : Ent Tryz.prog 19 := ⟨Tryz.call19⟩
instance en20 : Ent Tryz.prog 20 := ⟨Tryz.call20⟩
instance en21 : Ent Tryz.prog 21 := ⟨Tryz.call21⟩
instance en22 : Ent Tryz.prog 22 := ⟨Tryz.call22⟩
instance en23 : Ent Tryz.prog 23 := ⟨Tryz.call23⟩
instance en24 : Ent Tryz.prog 24 := ⟨Tryz.call24⟩
instance en25 : Ent Tryz.prog 25 := ⟨Tryz.call25⟩
instance en26 : Ent Tryz.prog 26 := ⟨Tryz.call26⟩
instance en27 : Ent Tryz.prog 27 := ⟨Tryz.call27⟩
instance en28 : Ent Tryz.prog 28 := ⟨Tryz.call28⟩
instance en29 : Ent Tryz.prog 29 := ⟨Tryz.call29⟩
instance en30 : Ent Tryz.prog 30 := ⟨Tryz.call30⟩
instance en31 : Ent Tryz.prog 31 := ⟨Tryz.call31⟩
instance en32 : Ent Tryz.prog 32 := ⟨Tryz.call32⟩
instance en33 : Ent Tryz.prog 33 := ⟨Tryz.call33⟩
instance en34 : Ent Tryz.prog 34 := ⟨Tryz.call34⟩
instance en35 : Ent Tryz.prog 35 := ⟨Tryz.call35⟩
instance en36 : Ent Tryz.prog 36 := ⟨Tryz.call36⟩
instance en37 : Ent Tryz.prog 37 := ⟨Tryz.call37⟩
instance en38 : Ent Tryz.prog 38 := ⟨Tryz.call38⟩
instance en39 : Ent Tryz.prog 39 := ⟨Tryz.call39⟩
instance en40 : Ent Tryz.prog 40 := ⟨Tryz.call40⟩
instance en41 : Ent Tryz.prog 41 := ⟨Tryz.call41⟩
instance en42 : Ent Tryz.prog 42 := ⟨Tryz.call42⟩
instance en43 : Ent Tryz.prog 43 := ⟨Tryz.call43⟩
instance en44 : Ent Tryz.prog 44 := ⟨Tryz.call44⟩
instance en45 : Ent Tryz.prog 45 := ⟨Tryz.call45⟩
instance en46 : Ent Tryz.prog 46 := ⟨Tryz.call46⟩
instance en47 : Ent Tryz.prog 47 := ⟨Tryz.call47⟩
instance en48 : Ent Tryz.prog 48 := ⟨Tryz.call48⟩
instance en49 : Ent Tryz.prog 49 := ⟨Tryz.call49⟩
instance en50 : Ent Tryz.prog 50 := ⟨Tryz.call50⟩
instance en51 : Ent Tryz.prog 51 := ⟨Tryz.call51⟩
instance en52 : Ent Tryz.prog 52 := ⟨Tryz.call52⟩
instance en53 : Ent Tryz.prog 53 := ⟨Tryz.call53⟩
instance en54 : Ent Tryz.prog 54 := ⟨Tryz.call54⟩
instance en55 : Ent Tryz.prog 55 := ⟨Tryz.call55⟩
instance en56 : Ent Tryz.prog 56 := ⟨Tryz.call56⟩
instance en57 : Ent Tryz.prog 57 := ⟨Tryz.call57⟩
instance en58 : Ent Tryz.prog 58 := ⟨Tryz.call58⟩
instance en59 : Ent Tryz.prog 59 := ⟨Tryz.call59⟩
instance en60 : Ent Tryz.prog 60 := ⟨Tryz.call60⟩
instance en61 : Ent Tryz.prog 61 := ⟨Tryz.call61⟩
instance en62 : Ent Tryz.prog 62 := ⟨Tryz.call62⟩
instance en63 : Ent Tryz.prog 63 := ⟨Tryz.call63⟩
instance en64 : Ent Tryz.prog 64 := ⟨Tryz.call64⟩
instance en65 : Ent Tryz.prog 65 := ⟨Tryz.call65⟩
instance en66 : Ent Tryz.prog 66 := ⟨Tryz.call66⟩
instance en67 : Ent Tryz.prog 67 := ⟨Tryz.call67⟩
instance en68 : Ent Tryz.prog 68 := ⟨Tryz.call68⟩
instance en69 : Ent Tryz.prog 69 := ⟨Tryz.call69⟩
instance en70 : Ent Tryz.prog 70 := ⟨Tryz.call70⟩
instance en71 : Ent Tryz.prog 71 := ⟨Tryz.call71⟩
instance en72 : Ent Tryz.prog 72 := ⟨Tryz.call72⟩
instance en73 : Ent Tryz.prog 73 := ⟨Tryz.call73⟩
instance en74 : Ent Tryz.prog 74 := ⟨Tryz.call74⟩
instance en75 : Ent Tryz.prog 75 := ⟨Tryz.call75⟩
instance en76 : Ent Tryz.prog 76 := ⟨Tryz.call76⟩
instance en77 : Ent Tryz.prog 77 := ⟨Tryz.call77⟩
instance en78 : Ent Tryz.prog 78 := ⟨Tryz.call78⟩
instance en79 : Ent Tryz.prog 79 := ⟨Tryz.call79⟩
instance en80 : Ent Tryz.prog 80 := ⟨Tryz.call80⟩
instance en81 : Ent Tryz.prog 81 := ⟨Tryz.call81⟩
instance en82 : Ent Tryz.prog 82 := ⟨Tryz.call82⟩
instance en83 : Ent Tryz.prog 83 := ⟨Tryz.call83⟩
instance en84 : Ent Tryz.prog 84 := ⟨Tryz.call84⟩
instance en85 : Ent Tryz.prog 85 := ⟨Tryz.call85⟩
instance en86 : Ent Tryz.prog 86 := ⟨Tryz.call86⟩
instance en87 : Ent Tryz.prog 87 := ⟨Tryz.call87⟩
instance en88 : Ent Tryz.prog 88 := ⟨Tryz.call88⟩
instance en89 : Ent Tryz.prog 89 := ⟨Tryz.call89⟩
instance en90 : Ent Tryz.prog 90 := ⟨Tryz.call90⟩
instance en91 : Ent Tryz.prog 91 := ⟨Tryz.call91⟩
instance en92 : Ent Tryz.prog 92 := ⟨Tryz.call92⟩
instance en93 : Ent Tryz.prog 93 := ⟨Tryz.call93⟩
instance en94 : Ent Tryz.prog 94 := ⟨Tryz.call94⟩
instance en95 : Ent Tryz.prog 95 := ⟨Tryz.call95⟩
instance en96 : Ent Tryz.prog 96 := ⟨Tryz.call96⟩
instance en97 : Ent Tryz.prog 97 := ⟨Tryz.call97⟩
instance en98 : Ent Tryz.prog 98 := ⟨Tryz.call98⟩
instance en99 : Ent Tryz.prog 99 := ⟨Tryz.call99⟩
instance en100 : Ent Tryz.prog 100 := ⟨Tryz.call100⟩
instance en101 : Ent Tryz.prog 101 := ⟨Tryz.call101⟩
instance en102 : Ent Tryz.prog 102 := ⟨Tryz.call102⟩
instance en103 : Ent Tryz.prog 103 := ⟨Tryz.call103⟩
instance en104 : Ent Tryz.prog 104 := ⟨Tryz.call104⟩
instance en105 : Ent Tryz.prog 105 := ⟨Tryz.call105⟩
instance en107 : Ent Tryz.prog 107 := ⟨Tryz.call107⟩
instance en108 : Ent Tryz.prog 108 := ⟨Tryz.call108⟩
instance en109 : Ent Tryz.prog 109 := ⟨Tryz.call109⟩
instance en110 : Ent Tryz.prog 110 := ⟨Tryz.call110⟩
instance en111 : Ent Tryz.prog 111 := ⟨Tryz.call111⟩
instance en112 : Ent Tryz.prog 112 := ⟨Tryz.call112⟩
instance en113 : Ent Tryz.prog 113 := ⟨Tryz.call113⟩
instance en114 : Ent Tryz.prog 114 := ⟨Tryz.call114⟩
instance en115 : Ent Tryz.prog 115 := ⟨Tryz.call115⟩
instance en116 : Ent Tryz.prog 116 := ⟨Tryz.call116⟩
instance en117 : Ent Tryz.prog 117 := ⟨Tryz.call117⟩
instance en118 : Ent Tryz.prog 118 := ⟨Tryz.call118⟩
instance en119 : Ent Tryz.prog 119 := ⟨Tryz.call119⟩
instance en120 : Ent Tryz.prog 120 := ⟨Tryz.call120⟩
instance en121 : Ent Tryz.prog 121 := ⟨Tryz.call121⟩
instance en122 : Ent Tryz.prog 122 := ⟨Tryz.call122⟩
instance en123 : Ent Tryz.prog 123 := ⟨Tryz.call123⟩
instance en124 : Ent Tryz.prog 124 := ⟨Tryz.call124⟩
instance en125 : Ent Tryz.prog 125 := ⟨Tryz.call125⟩
instance en126 : Ent Tryz.prog 126 := ⟨Tryz.call126⟩
instance en127 : Ent Tryz.prog 127 := ⟨Tryz.call127⟩
instance en128 : Ent Tryz.prog 128 := ⟨Tryz.call128⟩
instance en129 : Ent Tryz.prog 129 := ⟨Tryz.call129⟩
instance en130 : Ent Tryz.prog 130 := ⟨Tryz.call130⟩
instance en131 : Ent Tryz.prog 131 := ⟨Tryz.call131⟩
instance en132 : Ent Tryz.prog 132 := ⟨Tryz.call132⟩
instance en137 : Ent Tryz.prog 137 := ⟨Tryz.call137⟩
instance en140 : Ent Tryz.prog 140 := ⟨Tryz.call140⟩
instance en141 : Ent Tryz.prog 141 := ⟨Tryz.call141⟩
instance en142 : Ent Tryz.prog 142 := ⟨Tryz.call142⟩
instance en143 : Ent Tryz.prog 143 := ⟨Tryz.call143⟩
instance en144 : Ent Tryz.prog 144 := ⟨Tryz.call144⟩
instance en145 : Ent Tryz.prog 145 := ⟨Tryz.call145⟩
instance en146 : Ent Tryz.prog 146 := ⟨Tryz.call146⟩
instance en147 : Ent Tryz.prog 147 := ⟨Tryz.call147⟩
instance en148 : Ent Tryz.prog 148 := ⟨Tryz.call148⟩
instance en150 : Ent Tryz.prog 150 := ⟨Tryz.call150⟩
instance en152 : Ent Tryz.prog 152 := ⟨Tryz.call152⟩
instance en153 : Ent Tryz.prog 153 := ⟨Tryz.call153⟩
instance en154 : Ent Tryz.prog 154 := ⟨Tryz.call154⟩
instance en155 : Ent Tryz.prog 155 := ⟨Tryz.call155⟩
instance en156 : Ent Tryz.prog 156 := ⟨Tryz.call156⟩
instance en157 : Ent Tryz.prog 157 := ⟨Tryz.call157⟩
instance en158 : Ent Tryz.prog 158 := ⟨Tryz.call158⟩
instance en159 : Ent Tryz.prog 159 := ⟨Tryz.call159⟩
instance en161 : Ent Tryz.prog 161 := ⟨Tryz.call161⟩
instance en162 : Ent Tryz.prog 162 := ⟨Tryz.call162⟩
instance en163 : Ent Tryz.prog 163 := ⟨Tryz.call163⟩
instance en164 : Ent Tryz.prog 164 := ⟨Tryz.call164⟩
instance en172 : Ent Tryz.prog 172 := ⟨Tryz.call172⟩
instance en173 : Ent Tryz.prog 173 := ⟨Tryz.call173⟩
instance en174 : Ent Tryz.prog 174 := ⟨Tryz.call174⟩
instance en175 : Ent Tryz.prog 175 := ⟨Tryz.call175⟩
instance en176 : Ent Tryz.prog 176 := ⟨Tryz.call176⟩
instance en177 : Ent Tryz.prog 177 := ⟨Tryz.call177⟩
instance en178 : Ent Tryz.prog 178 := ⟨Tryz.call178⟩
instance en179 : Ent Tryz.prog 179 := ⟨Tryz.call179⟩
instance en180 : Ent Tryz.prog 180 := ⟨Tryz.call180⟩
instance en182 : Ent Tryz.prog 182 := ⟨Tryz.call182⟩
instance en183 : Ent Tryz.prog 183 := ⟨Tryz.call183⟩
instance en184 : Ent Tryz.prog 184 := ⟨Tryz.call184⟩
instance en185 : Ent Tryz.prog 185 := ⟨Tryz.call185⟩
instance en186 : Ent Tryz.prog 186 := ⟨Tryz.call186⟩
instance en187 : Ent Tryz.prog 187 := ⟨Tryz.call187⟩
instance en188 : Ent Tryz.prog 188 := ⟨Tryz.call188⟩
instance en189 : Ent Tryz.prog 189 := ⟨Tryz.call189⟩
instance en190 : Ent Tryz.prog 190 := ⟨Tryz.call190⟩
instance en191 : Ent Tryz.prog 191 := ⟨Tryz.call191⟩
instance en192 : Ent Tryz.prog 192 := ⟨Tryz.call192⟩
instance en193 : Ent Tryz.prog 193 := ⟨Tryz.call193⟩
instance en194 : Ent Tryz.prog 194 := ⟨Tryz.call194⟩
instance en195 : Ent Tryz.prog 195 := ⟨Tryz.call195⟩
instance en196 : Ent Tryz.prog 196 := ⟨Tryz.call196⟩
instance en197 : Ent Tryz.prog 197 := ⟨Tryz.call197⟩
instance en198 : Ent Tryz.prog 198 := ⟨Tryz.call198⟩
instance en199 : Ent Tryz.prog 199 := ⟨Tryz.call199⟩
instance en200 : Ent Tryz.prog 200 := ⟨Tryz.call200⟩
instance en202 : Ent Tryz.prog 202 := ⟨Tryz.call202⟩
instance en203 : Ent Tryz.prog 203 := ⟨Tryz.call203⟩
instance en204 : Ent Tryz.prog 204 := ⟨Tryz.call204⟩
instance en205 : Ent Tryz.prog 205 := ⟨Tryz.call205⟩
instance en206 : Ent Tryz.prog 206 := ⟨Tryz.call206⟩
instance en207 : Ent Tryz.prog 207 := ⟨Tryz.call207⟩
instance en208 : Ent Tryz.prog 208 := ⟨Tryz.call208⟩
instance en209 : Ent Tryz.prog 209 := ⟨Tryz.call209⟩
instance en210 : Ent Tryz.prog 210 := ⟨Tryz.call210⟩
instance en211 : Ent Tryz.prog 211 := ⟨Tryz.call211⟩
instance en212 : Ent Tryz.prog 212 := ⟨Tryz.call212⟩
instance en213 : Ent Tryz.prog 213 := ⟨Tryz.call213⟩
instance en214 : Ent Tryz.prog 214 := ⟨Tryz.call214⟩
instance en242 : Ent Tryz.prog 242 := ⟨Tryz.call242⟩
end Go.Proofs.YtafpjnkfbfkjcaaGreatDoor
