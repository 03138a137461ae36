import Derived.Test.YtobablbklkpchaaProg
import Derived.Test.YtobablbklkpchaaAx1
import Derived.KernelRfl
set_option linter.unusedVariables false
set_option maxRecDepth 100000
namespace Go.Proofs.Ytobablbklkpchaa
open Go Go.AX
instance ty0 : Ty Try.prog 0 (TypeDesc.tuple #[]) 1 0 (Value.tuple #[]) := ⟨Try.underlying0, Try.t0, rfl, rfl, rfl, rfl⟩
instance ty1 : Ty Try.prog 1 (TypeDesc.func #[] #[] false) 1 8 Value.nilFunc := ⟨Try.underlying1, Try.t1, rfl, rfl, rfl, rfl⟩
instance ty2 : Ty Try.prog 2 (TypeDesc.int IntKind.i64) 1 8 (Value.int IntKind.i64 0) := ⟨Try.underlying2, Try.t2, rfl, rfl, rfl, rfl⟩
instance ty3 : Ty Try.prog 3 (TypeDesc.int IntKind.i64) 1 8 (Value.int IntKind.i64 0) := ⟨Try.underlying3, Try.t3, rfl, rfl, rfl, rfl⟩
instance ty4 : Ty Try.prog 4 TypeDesc.bool 1 1 (Value.bool false) := ⟨Try.underlying4, Try.t4, rfl, rfl, rfl, rfl⟩
instance ty5 : Ty Try.prog 5 (TypeDesc.int IntKind.u8) 1 1 (Value.int IntKind.u8 0) := ⟨Try.underlying5, Try.t5, rfl, rfl, rfl, rfl⟩
instance ty6 : Ty Try.prog 6 (TypeDesc.int IntKind.u8) 1 1 (Value.int IntKind.u8 0) := ⟨Try.underlying6, Try.t6, rfl, rfl, rfl, rfl⟩
instance ty7 : Ty Try.prog 7 (TypeDesc.struct
      #[{ name := "x", type := 2, offset := 0, embedded := false, tag := "", pkgPath := "runtime", byteOffset := 0 },
        { name := "y", type := 3, offset := 1, embedded := false, tag := "", pkgPath := "runtime", byteOffset := 8 },
        { name := "signed", type := 4, offset := 2, embedded := false, tag := "", pkgPath := "runtime",
          byteOffset := 16 },
        { name := "code", type := 6, offset := 3, embedded := false, tag := "", pkgPath := "runtime",
          byteOffset := 17 }]) 4 24 (Value.agg #[Value.int IntKind.i64 0, Value.int IntKind.i64 0, Value.bool false, Value.int IntKind.u8 0]) := ⟨Try.underlying7, Try.t7, rfl, rfl, rfl, rfl⟩
instance ty8 : Ty Try.prog 8 (TypeDesc.struct
      #[{ name := "x", type := 2, offset := 0, embedded := false, tag := "", pkgPath := "runtime", byteOffset := 0 },
        { name := "y", type := 3, offset := 1, embedded := false, tag := "", pkgPath := "runtime", byteOffset := 8 },
        { name := "signed", type := 4, offset := 2, embedded := false, tag := "", pkgPath := "runtime",
          byteOffset := 16 },
        { name := "code", type := 6, offset := 3, embedded := false, tag := "", pkgPath := "runtime",
          byteOffset := 17 }]) 4 24 (Value.agg #[Value.int IntKind.i64 0, Value.int IntKind.i64 0, Value.bool false, Value.int IntKind.u8 0]) := ⟨Try.underlying8, Try.t8, rfl, rfl, rfl, rfl⟩
instance ty9 : Ty Try.prog 9 TypeDesc.string 1 16 (Value.string { data := #[] }) := ⟨Try.underlying9, Try.t9, rfl, rfl, rfl, rfl⟩
instance ty10 : Ty Try.prog 10 TypeDesc.string 1 16 (Value.string { data := #[] }) := ⟨Try.underlying10, Try.t10, rfl, rfl, rfl, rfl⟩
instance ty11 : Ty Try.prog 11 TypeDesc.string 1 16 (Value.string { data := #[] }) := ⟨Try.underlying11, Try.t11, rfl, rfl, rfl, rfl⟩
instance ty12 : Ty Try.prog 12 (TypeDesc.int IntKind.u64) 1 8 (Value.int IntKind.u64 0) := ⟨Try.underlying12, Try.t12, rfl, rfl, rfl, rfl⟩
instance ty13 : Ty Try.prog 13 (TypeDesc.struct
      #[{ name := "msg", type := 9, offset := 0, embedded := false, tag := "", pkgPath := "runtime", byteOffset := 0 },
        { name := "addr", type := 12, offset := 1, embedded := false, tag := "", pkgPath := "runtime",
          byteOffset := 16 }]) 2 24 (Value.agg #[Value.string { data := #[] }, Value.int IntKind.u64 0]) := ⟨Try.underlying13, Try.t13, rfl, rfl, rfl, rfl⟩
instance ty14 : Ty Try.prog 14 (TypeDesc.struct
      #[{ name := "msg", type := 9, offset := 0, embedded := false, tag := "", pkgPath := "runtime", byteOffset := 0 },
        { name := "addr", type := 12, offset := 1, embedded := false, tag := "", pkgPath := "runtime",
          byteOffset := 16 }]) 2 24 (Value.agg #[Value.string { data := #[] }, Value.int IntKind.u64 0]) := ⟨Try.underlying14, Try.t14, rfl, rfl, rfl, rfl⟩
instance ty15 : Ty Try.prog 15 (TypeDesc.pointer 128) 1 8 (Value.pointer none) := ⟨Try.underlying15, Try.t15, rfl, rfl, rfl, rfl⟩
instance ty16 : Ty Try.prog 16 (TypeDesc.pointer 131) 1 8 (Value.pointer none) := ⟨Try.underlying16, Try.t16, rfl, rfl, rfl, rfl⟩
instance ty17 : Ty Try.prog 17 (TypeDesc.pointer 140) 1 8 (Value.pointer none) := ⟨Try.underlying17, Try.t17, rfl, rfl, rfl, rfl⟩
instance ty18 : Ty Try.prog 18 (TypeDesc.struct
      #[{ name := "typ", type := 17, offset := 0, embedded := false, tag := "", pkgPath := "internal/runtime/maps",
          byteOffset := 0 }]) 1 8 (Value.agg #[Value.pointer none]) := ⟨Try.underlying18, Try.t18, rfl, rfl, rfl, rfl⟩
instance ty19 : Ty Try.prog 19 (TypeDesc.struct
      #[{ name := "typ", type := 17, offset := 0, embedded := false, tag := "", pkgPath := "internal/runtime/maps",
          byteOffset := 0 }]) 1 8 (Value.agg #[Value.pointer none]) := ⟨Try.underlying19, Try.t19, rfl, rfl, rfl, rfl⟩
instance ty20 : Ty Try.prog 20 (TypeDesc.interface #[]) 1 16 Value.nilIface := ⟨Try.underlying20, Try.t20, rfl, rfl, rfl, rfl⟩
instance ty21 : Ty Try.prog 21 (TypeDesc.int IntKind.i32) 1 4 (Value.int IntKind.i32 0) := ⟨Try.underlying21, Try.t21, rfl, rfl, rfl, rfl⟩
instance ty22 : Ty Try.prog 22 (TypeDesc.slice 50) 1 24 (Value.slice none 0 0) := ⟨Try.underlying22, Try.t22, rfl, rfl, rfl, rfl⟩
instance ty23 : Ty Try.prog 23 (TypeDesc.slice 5) 1 24 (Value.slice none 0 0) := ⟨Try.underlying23, Try.t23, rfl, rfl, rfl, rfl⟩
instance ty24 : Ty Try.prog 24 (TypeDesc.func #[] #[4] false) 1 8 Value.nilFunc := ⟨Try.underlying24, Try.t24, rfl, rfl, rfl, rfl⟩
instance ty25 : Ty Try.prog 25 (TypeDesc.int IntKind.i64) 1 8 (Value.int IntKind.i64 0) := ⟨Try.underlying25, Try.t25, rfl, rfl, rfl, rfl⟩
instance ty26 : Ty Try.prog 26 (TypeDesc.tuple #[3, 25]) 1 0 (Value.tuple #[Value.int IntKind.i64 0, Value.int IntKind.i64 0]) := ⟨Try.underlying26, Try.t26, rfl, rfl, rfl, rfl⟩
instance ty27 : Ty Try.prog 27 (TypeDesc.func #[22] #[3, 25] false) 1 8 Value.nilFunc := ⟨Try.underlying27, Try.t27, rfl, rfl, rfl, rfl⟩
instance ty28 : Ty Try.prog 28 (TypeDesc.tuple #[4, 3, 25]) 1 0 (Value.tuple #[Value.bool false, Value.int IntKind.i64 0, Value.int IntKind.i64 0]) := ⟨Try.underlying28, Try.t28, rfl, rfl, rfl, rfl⟩
instance ty29 : Ty Try.prog 29 (TypeDesc.func #[22, 3, 23] #[4, 3, 25] false) 1 8 Value.nilFunc := ⟨Try.underlying29, Try.t29, rfl, rfl, rfl, rfl⟩
instance ty30 : Ty Try.prog 30 (TypeDesc.func #[22, 3, 23] #[4] false) 1 8 Value.nilFunc := ⟨Try.underlying30, Try.t30, rfl, rfl, rfl, rfl⟩
instance ty31 : Ty Try.prog 31 (TypeDesc.slice 23) 1 24 (Value.slice none 0 0) := ⟨Try.underlying31, Try.t31, rfl, rfl, rfl, rfl⟩
instance ty32 : Ty Try.prog 32 (TypeDesc.func #[22, 22, 31] #[4, 3, 25] false) 1 8 Value.nilFunc := ⟨Try.underlying32, Try.t32, rfl, rfl, rfl, rfl⟩
instance ty33 : Ty Try.prog 33 (TypeDesc.func #[22, 22, 31] #[4] false) 1 8 Value.nilFunc := ⟨Try.underlying33, Try.t33, rfl, rfl, rfl, rfl⟩
instance ty34 : Ty Try.prog 34 (TypeDesc.tuple #[22, 25]) 1 0 (Value.tuple #[Value.slice none 0 0, Value.int IntKind.i64 0]) := ⟨Try.underlying34, Try.t34, rfl, rfl, rfl, rfl⟩
instance ty35 : Ty Try.prog 35 (TypeDesc.func #[22] #[22, 25] false) 1 8 Value.nilFunc := ⟨Try.underlying35, Try.t35, rfl, rfl, rfl, rfl⟩
instance ty36 : Ty Try.prog 36 (TypeDesc.slice 51) 1 24 (Value.slice none 0 0) := ⟨Try.underlying36, Try.t36, rfl, rfl, rfl, rfl⟩
instance ty37 : Ty Try.prog 37 (TypeDesc.tuple #[36, 25]) 1 0 (Value.tuple #[Value.slice none 0 0, Value.int IntKind.i64 0]) := ⟨Try.underlying37, Try.t37, rfl, rfl, rfl, rfl⟩
instance ty38 : Ty Try.prog 38 (TypeDesc.func #[22] #[36, 25] false) 1 8 Value.nilFunc := ⟨Try.underlying38, Try.t38, rfl, rfl, rfl, rfl⟩
instance ty39 : Ty Try.prog 39 (TypeDesc.slice 3) 1 24 (Value.slice none 0 0) := ⟨Try.underlying39, Try.t39, rfl, rfl, rfl, rfl⟩
instance ty40 : Ty Try.prog 40 (TypeDesc.tuple #[39, 25]) 1 0 (Value.tuple #[Value.slice none 0 0, Value.int IntKind.i64 0]) := ⟨Try.underlying40, Try.t40, rfl, rfl, rfl, rfl⟩
instance ty41 : Ty Try.prog 41 (TypeDesc.func #[22] #[39, 25] false) 1 8 Value.nilFunc := ⟨Try.underlying41, Try.t41, rfl, rfl, rfl, rfl⟩
instance ty42 : Ty Try.prog 42 (TypeDesc.tuple #[4, 3]) 1 0 (Value.tuple #[Value.bool false, Value.int IntKind.i64 0]) := ⟨Try.underlying42, Try.t42, rfl, rfl, rfl, rfl⟩
instance ty43 : Ty Try.prog 43 (TypeDesc.func #[22, 3, 23] #[4, 3] false) 1 8 Value.nilFunc := ⟨Try.underlying43, Try.t43, rfl, rfl, rfl, rfl⟩
instance ty44 : Ty Try.prog 44 (TypeDesc.func #[22, 22] #[4] false) 1 8 Value.nilFunc := ⟨Try.underlying44, Try.t44, rfl, rfl, rfl, rfl⟩
instance ty45 : Ty Try.prog 45 (TypeDesc.func #[22, 23] #[4] false) 1 8 Value.nilFunc := ⟨Try.underlying45, Try.t45, rfl, rfl, rfl, rfl⟩
instance ty46 : Ty Try.prog 46 (TypeDesc.func #[36, 36] #[4] false) 1 8 Value.nilFunc := ⟨Try.underlying46, Try.t46, rfl, rfl, rfl, rfl⟩
instance ty47 : Ty Try.prog 47 (TypeDesc.func #[39, 39] #[4] false) 1 8 Value.nilFunc := ⟨Try.underlying47, Try.t47, rfl, rfl, rfl, rfl⟩
instance ty48 : Ty Try.prog 48 (TypeDesc.func #[22] #[4] false) 1 8 Value.nilFunc := ⟨Try.underlying48, Try.t48, rfl, rfl, rfl, rfl⟩
instance ty49 : Ty Try.prog 49 (TypeDesc.struct
      #[{ name := "Op", type := 3, offset := 0, embedded := false, tag := "", pkgPath := "", byteOffset := 0 },
        { name := "K", type := 3, offset := 1, embedded := false, tag := "", pkgPath := "", byteOffset := 8 },
        { name := "T", type := 3, offset := 2, embedded := false, tag := "", pkgPath := "", byteOffset := 16 },
        { name := "F", type := 3, offset := 3, embedded := false, tag := "", pkgPath := "", byteOffset := 24 }]) 4 32 (Value.agg #[Value.int IntKind.i64 0, Value.int IntKind.i64 0, Value.int IntKind.i64 0, Value.int IntKind.i64 0]) := ⟨Try.underlying49, Try.t49, rfl, rfl, rfl, rfl⟩
instance ty50 : Ty Try.prog 50 (TypeDesc.struct
      #[{ name := "Op", type := 3, offset := 0, embedded := false, tag := "", pkgPath := "", byteOffset := 0 },
        { name := "K", type := 3, offset := 1, embedded := false, tag := "", pkgPath := "", byteOffset := 8 },
        { name := "T", type := 3, offset := 2, embedded := false, tag := "", pkgPath := "", byteOffset := 16 },
        { name := "F", type := 3, offset := 3, embedded := false, tag := "", pkgPath := "", byteOffset := 24 }]) 4 32 (Value.agg #[Value.int IntKind.i64 0, Value.int IntKind.i64 0, Value.int IntKind.i64 0, Value.int IntKind.i64 0]) := ⟨Try.underlying50, Try.t50, rfl, rfl, rfl, rfl⟩
instance ty51 : Ty Try.prog 51 (TypeDesc.array 2 3) 2 16 (Value.agg #[Value.int IntKind.i64 0, Value.int IntKind.i64 0]) := ⟨Try.underlying51, Try.t51, rfl, rfl, rfl, rfl⟩
instance ty52 : Ty Try.prog 52 (TypeDesc.func #[50, 3, 3] #[4] false) 1 8 Value.nilFunc := ⟨Try.underlying52, Try.t52, rfl, rfl, rfl, rfl⟩
instance ty53 : Ty Try.prog 53 (TypeDesc.func #[22, 3] #[4] false) 1 8 Value.nilFunc := ⟨Try.underlying53, Try.t53, rfl, rfl, rfl, rfl⟩
instance ty54 : Ty Try.prog 54 (TypeDesc.func #[3, 23] #[25] false) 1 8 Value.nilFunc := ⟨Try.underlying54, Try.t54, rfl, rfl, rfl, rfl⟩
instance ty55 : Ty Try.prog 55 (TypeDesc.pointer 58) 1 8 (Value.pointer none) := ⟨Try.underlying55, Try.t55, rfl, rfl, rfl, rfl⟩
instance ty56 : Ty Try.prog 56 (TypeDesc.array 16 3) 16 128 (Value.agg
        #[Value.int IntKind.i64 0, Value.int IntKind.i64 0, Value.int IntKind.i64 0, Value.int IntKind.i64 0,
          Value.int IntKind.i64 0, Value.int IntKind.i64 0, Value.int IntKind.i64 0, Value.int IntKind.i64 0,
          Value.int IntKind.i64 0, Value.int IntKind.i64 0, Value.int IntKind.i64 0, Value.int IntKind.i64 0,
          Value.int IntKind.i64 0, Value.int IntKind.i64 0, Value.int IntKind.i64 0, Value.int IntKind.i64 0]) := ⟨Try.underlying56, Try.t56, rfl, rfl, rfl, rfl⟩
instance ty57 : Ty Try.prog 57 (TypeDesc.struct
      #[{ name := "a", type := 3, offset := 0, embedded := false, tag := "", pkgPath := "wireglass/cond",
          byteOffset := 0 },
        { name := "x", type := 3, offset := 1, embedded := false, tag := "", pkgPath := "wireglass/cond",
          byteOffset := 8 },
        { name := "cells", type := 56, offset := 2, embedded := false, tag := "", pkgPath := "wireglass/cond",
          byteOffset := 16 },
        { name := "real", type := 3, offset := 18, embedded := false, tag := "", pkgPath := "wireglass/cond",
          byteOffset := 144 },
        { name := "data", type := 23, offset := 19, embedded := false, tag := "", pkgPath := "wireglass/cond",
          byteOffset := 152 },
        { name := "dead", type := 4, offset := 20, embedded := false, tag := "", pkgPath := "wireglass/cond",
          byteOffset := 176 }]) 21 184 (Value.agg
        #[Value.int IntKind.i64 0, Value.int IntKind.i64 0, Value.int IntKind.i64 0, Value.int IntKind.i64 0,
          Value.int IntKind.i64 0, Value.int IntKind.i64 0, Value.int IntKind.i64 0, Value.int IntKind.i64 0,
          Value.int IntKind.i64 0, Value.int IntKind.i64 0, Value.int IntKind.i64 0, Value.int IntKind.i64 0,
          Value.int IntKind.i64 0, Value.int IntKind.i64 0, Value.int IntKind.i64 0, Value.int IntKind.i64 0,
          Value.int IntKind.i64 0, Value.int IntKind.i64 0, Value.int IntKind.i64 0, Value.slice none 0 0,
          Value.bool false]) := ⟨Try.underlying57, Try.t57, rfl, rfl, rfl, rfl⟩
instance ty58 : Ty Try.prog 58 (TypeDesc.struct
      #[{ name := "a", type := 3, offset := 0, embedded := false, tag := "", pkgPath := "wireglass/cond",
          byteOffset := 0 },
        { name := "x", type := 3, offset := 1, embedded := false, tag := "", pkgPath := "wireglass/cond",
          byteOffset := 8 },
        { name := "cells", type := 56, offset := 2, embedded := false, tag := "", pkgPath := "wireglass/cond",
          byteOffset := 16 },
        { name := "real", type := 3, offset := 18, embedded := false, tag := "", pkgPath := "wireglass/cond",
          byteOffset := 144 },
        { name := "data", type := 23, offset := 19, embedded := false, tag := "", pkgPath := "wireglass/cond",
          byteOffset := 152 },
        { name := "dead", type := 4, offset := 20, embedded := false, tag := "", pkgPath := "wireglass/cond",
          byteOffset := 176 }]) 21 184 (Value.agg
        #[Value.int IntKind.i64 0, Value.int IntKind.i64 0, Value.int IntKind.i64 0, Value.int IntKind.i64 0,
          Value.int IntKind.i64 0, Value.int IntKind.i64 0, Value.int IntKind.i64 0, Value.int IntKind.i64 0,
          Value.int IntKind.i64 0, Value.int IntKind.i64 0, Value.int IntKind.i64 0, Value.int IntKind.i64 0,
          Value.int IntKind.i64 0, Value.int IntKind.i64 0, Value.int IntKind.i64 0, Value.int IntKind.i64 0,
          Value.int IntKind.i64 0, Value.int IntKind.i64 0, Value.int IntKind.i64 0, Value.slice none 0 0,
          Value.bool false]) := ⟨Try.underlying58, Try.t58, rfl, rfl, rfl, rfl⟩
instance ty59 : Ty Try.prog 59 (TypeDesc.func #[22] #[4, 3] false) 1 8 Value.nilFunc := ⟨Try.underlying59, Try.t59, rfl, rfl, rfl, rfl⟩
instance ty60 : Ty Try.prog 60 (TypeDesc.slice 22) 1 24 (Value.slice none 0 0) := ⟨Try.underlying60, Try.t60, rfl, rfl, rfl, rfl⟩
instance ty61 : Ty Try.prog 61 (TypeDesc.func #[22] #[22] false) 1 8 Value.nilFunc := ⟨Try.underlying61, Try.t61, rfl, rfl, rfl, rfl⟩
instance ty62 : Ty Try.prog 62 (TypeDesc.slice 84) 1 24 (Value.slice none 0 0) := ⟨Try.underlying62, Try.t62, rfl, rfl, rfl, rfl⟩
instance ty63 : Ty Try.prog 63 (TypeDesc.func #[22] #[62] false) 1 8 Value.nilFunc := ⟨Try.underlying63, Try.t63, rfl, rfl, rfl, rfl⟩
instance ty64 : Ty Try.prog 64 (TypeDesc.func #[62] #[] false) 1 8 Value.nilFunc := ⟨Try.underlying64, Try.t64, rfl, rfl, rfl, rfl⟩
instance ty65 : Ty Try.prog 65 (TypeDesc.func #[62] #[22] false) 1 8 Value.nilFunc := ⟨Try.underlying65, Try.t65, rfl, rfl, rfl, rfl⟩
instance ty66 : Ty Try.prog 66 (TypeDesc.slice 4) 1 24 (Value.slice none 0 0) := ⟨Try.underlying66, Try.t66, rfl, rfl, rfl, rfl⟩
instance ty67 : Ty Try.prog 67 (TypeDesc.func #[3] #[4] false) 1 8 Value.nilFunc := ⟨Try.underlying67, Try.t67, rfl, rfl, rfl, rfl⟩
instance ty68 : Ty Try.prog 68 (TypeDesc.func #[22, 3] #[39] false) 1 8 Value.nilFunc := ⟨Try.underlying68, Try.t68, rfl, rfl, rfl, rfl⟩
instance ty69 : Ty Try.prog 69 (TypeDesc.func #[3, 36, 3] #[66] false) 1 8 Value.nilFunc := ⟨Try.underlying69, Try.t69, rfl, rfl, rfl, rfl⟩
instance ty70 : Ty Try.prog 70 (TypeDesc.pointer 72) 1 8 (Value.pointer none) := ⟨Try.underlying70, Try.t70, rfl, rfl, rfl, rfl⟩
instance ty71 : Ty Try.prog 71 (TypeDesc.struct
      #[{ name := "a", type := 3, offset := 0, embedded := false, tag := "", pkgPath := "wireglass/wireglassref13",
          byteOffset := 0 },
        { name := "x", type := 3, offset := 1, embedded := false, tag := "", pkgPath := "wireglass/wireglassref13",
          byteOffset := 8 },
        { name := "cells", type := 56, offset := 2, embedded := false, tag := "", pkgPath := "wireglass/wireglassref13",
          byteOffset := 16 },
        { name := "real", type := 3, offset := 18, embedded := false, tag := "", pkgPath := "wireglass/wireglassref13",
          byteOffset := 144 },
        { name := "data", type := 23, offset := 19, embedded := false, tag := "", pkgPath := "wireglass/wireglassref13",
          byteOffset := 152 },
        { name := "ends", type := 4, offset := 20, embedded := false, tag := "", pkgPath := "wireglass/wireglassref13",
          byteOffset := 176 },
        { name := "taken", type := 4, offset := 21, embedded := false, tag := "", pkgPath := "wireglass/wireglassref13",
          byteOffset := 177 }]) 22 184 (Value.agg
        #[Value.int IntKind.i64 0, Value.int IntKind.i64 0, Value.int IntKind.i64 0, Value.int IntKind.i64 0,
          Value.int IntKind.i64 0, Value.int IntKind.i64 0, Value.int IntKind.i64 0, Value.int IntKind.i64 0,
          Value.int IntKind.i64 0, Value.int IntKind.i64 0, Value.int IntKind.i64 0, Value.int IntKind.i64 0,
          Value.int IntKind.i64 0, Value.int IntKind.i64 0, Value.int IntKind.i64 0, Value.int IntKind.i64 0,
          Value.int IntKind.i64 0, Value.int IntKind.i64 0, Value.int IntKind.i64 0, Value.slice none 0 0,
          Value.bool false, Value.bool false]) := ⟨Try.underlying71, Try.t71, rfl, rfl, rfl, rfl⟩
instance ty72 : Ty Try.prog 72 (TypeDesc.struct
      #[{ name := "a", type := 3, offset := 0, embedded := false, tag := "", pkgPath := "wireglass/wireglassref13",
          byteOffset := 0 },
        { name := "x", type := 3, offset := 1, embedded := false, tag := "", pkgPath := "wireglass/wireglassref13",
          byteOffset := 8 },
        { name := "cells", type := 56, offset := 2, embedded := false, tag := "", pkgPath := "wireglass/wireglassref13",
          byteOffset := 16 },
        { name := "real", type := 3, offset := 18, embedded := false, tag := "", pkgPath := "wireglass/wireglassref13",
          byteOffset := 144 },
        { name := "data", type := 23, offset := 19, embedded := false, tag := "", pkgPath := "wireglass/wireglassref13",
          byteOffset := 152 },
        { name := "ends", type := 4, offset := 20, embedded := false, tag := "", pkgPath := "wireglass/wireglassref13",
          byteOffset := 176 },
        { name := "taken", type := 4, offset := 21, embedded := false, tag := "", pkgPath := "wireglass/wireglassref13",
          byteOffset := 177 }]) 22 184 (Value.agg
        #[Value.int IntKind.i64 0, Value.int IntKind.i64 0, Value.int IntKind.i64 0, Value.int IntKind.i64 0,
          Value.int IntKind.i64 0, Value.int IntKind.i64 0, Value.int IntKind.i64 0, Value.int IntKind.i64 0,
          Value.int IntKind.i64 0, Value.int IntKind.i64 0, Value.int IntKind.i64 0, Value.int IntKind.i64 0,
          Value.int IntKind.i64 0, Value.int IntKind.i64 0, Value.int IntKind.i64 0, Value.int IntKind.i64 0,
          Value.int IntKind.i64 0, Value.int IntKind.i64 0, Value.int IntKind.i64 0, Value.slice none 0 0,
          Value.bool false, Value.bool false]) := ⟨Try.underlying72, Try.t72, rfl, rfl, rfl, rfl⟩
instance ty73 : Ty Try.prog 73 (TypeDesc.func #[50] #[3] false) 1 8 Value.nilFunc := ⟨Try.underlying73, Try.t73, rfl, rfl, rfl, rfl⟩
instance ty74 : Ty Try.prog 74 (TypeDesc.func #[22] #[36] false) 1 8 Value.nilFunc := ⟨Try.underlying74, Try.t74, rfl, rfl, rfl, rfl⟩
instance ty75 : Ty Try.prog 75 (TypeDesc.map 3 4) 1 8 (Value.map none) := ⟨Try.underlying75, Try.t75, rfl, rfl, rfl, rfl⟩
instance ty76 : Ty Try.prog 76 (TypeDesc.func #[22, 3] #[75] false) 1 8 Value.nilFunc := ⟨Try.underlying76, Try.t76, rfl, rfl, rfl, rfl⟩
instance ty77 : Ty Try.prog 77 (TypeDesc.func #[39, 3] #[39] false) 1 8 Value.nilFunc := ⟨Try.underlying77, Try.t77, rfl, rfl, rfl, rfl⟩
instance ty78 : Ty Try.prog 78 (TypeDesc.func #[55, 3] #[3] false) 1 8 Value.nilFunc := ⟨Try.underlying78, Try.t78, rfl, rfl, rfl, rfl⟩
instance ty79 : Ty Try.prog 79 (TypeDesc.array 34 78) 34 272 (Value.agg
        #[Value.nilFunc, Value.nilFunc, Value.nilFunc, Value.nilFunc, Value.nilFunc, Value.nilFunc, Value.nilFunc,
          Value.nilFunc, Value.nilFunc, Value.nilFunc, Value.nilFunc, Value.nilFunc, Value.nilFunc, Value.nilFunc,
          Value.nilFunc, Value.nilFunc, Value.nilFunc, Value.nilFunc, Value.nilFunc, Value.nilFunc, Value.nilFunc,
          Value.nilFunc, Value.nilFunc, Value.nilFunc, Value.nilFunc, Value.nilFunc, Value.nilFunc, Value.nilFunc,
          Value.nilFunc, Value.nilFunc, Value.nilFunc, Value.nilFunc, Value.nilFunc, Value.nilFunc]) := ⟨Try.underlying79, Try.t79, rfl, rfl, rfl, rfl⟩
instance ty80 : Ty Try.prog 80 (TypeDesc.func #[] #[79] false) 1 8 Value.nilFunc := ⟨Try.underlying80, Try.t80, rfl, rfl, rfl, rfl⟩
instance ty81 : Ty Try.prog 81 (TypeDesc.func #[50] #[4] false) 1 8 Value.nilFunc := ⟨Try.underlying81, Try.t81, rfl, rfl, rfl, rfl⟩
instance ty82 : Ty Try.prog 82 (TypeDesc.func #[3, 3] #[3] false) 1 8 Value.nilFunc := ⟨Try.underlying82, Try.t82, rfl, rfl, rfl, rfl⟩
instance ty83 : Ty Try.prog 83 (TypeDesc.struct
      #[{ name := "i", type := 50, offset := 0, embedded := false, tag := "", pkgPath := "wireglass/cond",
          byteOffset := 0 },
        { name := "yes", type := 3, offset := 4, embedded := false, tag := "", pkgPath := "wireglass/cond",
          byteOffset := 32 },
        { name := "no", type := 3, offset := 5, embedded := false, tag := "", pkgPath := "wireglass/cond",
          byteOffset := 40 },
        { name := "reachable", type := 4, offset := 6, embedded := false, tag := "", pkgPath := "wireglass/cond",
          byteOffset := 48 }]) 7 56 (Value.agg
        #[Value.int IntKind.i64 0, Value.int IntKind.i64 0, Value.int IntKind.i64 0, Value.int IntKind.i64 0,
          Value.int IntKind.i64 0, Value.int IntKind.i64 0, Value.bool false]) := ⟨Try.underlying83, Try.t83, rfl, rfl, rfl, rfl⟩
instance ty84 : Ty Try.prog 84 (TypeDesc.struct
      #[{ name := "i", type := 50, offset := 0, embedded := false, tag := "", pkgPath := "wireglass/cond",
          byteOffset := 0 },
        { name := "yes", type := 3, offset := 4, embedded := false, tag := "", pkgPath := "wireglass/cond",
          byteOffset := 32 },
        { name := "no", type := 3, offset := 5, embedded := false, tag := "", pkgPath := "wireglass/cond",
          byteOffset := 40 },
        { name := "reachable", type := 4, offset := 6, embedded := false, tag := "", pkgPath := "wireglass/cond",
          byteOffset := 48 }]) 7 56 (Value.agg
        #[Value.int IntKind.i64 0, Value.int IntKind.i64 0, Value.int IntKind.i64 0, Value.int IntKind.i64 0,
          Value.int IntKind.i64 0, Value.int IntKind.i64 0, Value.bool false]) := ⟨Try.underlying84, Try.t84, rfl, rfl, rfl, rfl⟩
instance ty85 : Ty Try.prog 85 (TypeDesc.pointer 84) 1 8 (Value.pointer none) := ⟨Try.underlying85, Try.t85, rfl, rfl, rfl, rfl⟩
instance ty86 : Ty Try.prog 86 (TypeDesc.func #[62, 3, 50, 4] #[3] false) 1 8 Value.nilFunc := ⟨Try.underlying86, Try.t86, rfl, rfl, rfl, rfl⟩
instance ty87 : Ty Try.prog 87 (TypeDesc.func #[62] #[66] false) 1 8 Value.nilFunc := ⟨Try.underlying87, Try.t87, rfl, rfl, rfl, rfl⟩
instance ty88 : Ty Try.prog 88 (TypeDesc.func #[3] #[3] false) 1 8 Value.nilFunc := ⟨Try.underlying88, Try.t88, rfl, rfl, rfl, rfl⟩
instance ty89 : Ty Try.prog 89 (TypeDesc.func #[3, 3] #[4] false) 1 8 Value.nilFunc := ⟨Try.underlying89, Try.t89, rfl, rfl, rfl, rfl⟩
instance ty90 : Ty Try.prog 90 (TypeDesc.map 3 3) 1 8 (Value.map none) := ⟨Try.underlying90, Try.t90, rfl, rfl, rfl, rfl⟩
instance ty91 : Ty Try.prog 91 (TypeDesc.func #[36, 93] #[] false) 1 8 Value.nilFunc := ⟨Try.underlying91, Try.t91, rfl, rfl, rfl, rfl⟩
instance ty92 : Ty Try.prog 92 (TypeDesc.func #[39, 39] #[3] false) 1 8 Value.nilFunc := ⟨Try.underlying92, Try.t92, rfl, rfl, rfl, rfl⟩
instance ty93 : Ty Try.prog 93 (TypeDesc.func #[51, 51] #[3] false) 1 8 Value.nilFunc := ⟨Try.underlying93, Try.t93, rfl, rfl, rfl, rfl⟩
instance ty94 : Ty Try.prog 94 (TypeDesc.func #[36] #[36] false) 1 8 Value.nilFunc := ⟨Try.underlying94, Try.t94, rfl, rfl, rfl, rfl⟩
instance ty95 : Ty Try.prog 95 (TypeDesc.int IntKind.u64) 1 8 (Value.int IntKind.u64 0) := ⟨Try.underlying95, Try.t95, rfl, rfl, rfl, rfl⟩
instance ty96 : Ty Try.prog 96 (TypeDesc.tuple #[95, 95]) 1 0 (Value.tuple #[Value.int IntKind.u64 0, Value.int IntKind.u64 0]) := ⟨Try.underlying96, Try.t96, rfl, rfl, rfl, rfl⟩
instance ty97 : Ty Try.prog 97 (TypeDesc.func #[95, 95] #[95, 95] false) 1 8 Value.nilFunc := ⟨Try.underlying97, Try.t97, rfl, rfl, rfl, rfl⟩
instance ty98 : Ty Try.prog 98 (TypeDesc.func #[4] #[3] false) 1 8 Value.nilFunc := ⟨Try.underlying98, Try.t98, rfl, rfl, rfl, rfl⟩
instance ty99 : Ty Try.prog 99 (TypeDesc.func #[36, 3, 3, 3, 93] #[] false) 1 8 Value.nilFunc := ⟨Try.underlying99, Try.t99, rfl, rfl, rfl, rfl⟩
instance ty100 : Ty Try.prog 100 (TypeDesc.func #[95] #[3] false) 1 8 Value.nilFunc := ⟨Try.underlying100, Try.t100, rfl, rfl, rfl, rfl⟩
instance ty101 : Ty Try.prog 101 (TypeDesc.int IntKind.u32) 1 4 (Value.int IntKind.u32 0) := ⟨Try.underlying101, Try.t101, rfl, rfl, rfl, rfl⟩
instance ty102 : Ty Try.prog 102 (TypeDesc.tuple #[101, 101]) 1 0 (Value.tuple #[Value.int IntKind.u32 0, Value.int IntKind.u32 0]) := ⟨Try.underlying102, Try.t102, rfl, rfl, rfl, rfl⟩
instance ty103 : Ty Try.prog 103 (TypeDesc.func #[101, 101] #[101, 101] false) 1 8 Value.nilFunc := ⟨Try.underlying103, Try.t103, rfl, rfl, rfl, rfl⟩
instance ty104 : Ty Try.prog 104 (TypeDesc.int IntKind.u64) 1 8 (Value.int IntKind.u64 0) := ⟨Try.underlying104, Try.t104, rfl, rfl, rfl, rfl⟩
instance ty105 : Ty Try.prog 105 (TypeDesc.tuple #[104, 104]) 1 0 (Value.tuple #[Value.int IntKind.u64 0, Value.int IntKind.u64 0]) := ⟨Try.underlying105, Try.t105, rfl, rfl, rfl, rfl⟩
instance ty106 : Ty Try.prog 106 (TypeDesc.func #[104, 104] #[104, 104] false) 1 8 Value.nilFunc := ⟨Try.underlying106, Try.t106, rfl, rfl, rfl, rfl⟩
instance ty107 : Ty Try.prog 107 (TypeDesc.func #[36, 3, 3, 93] #[] false) 1 8 Value.nilFunc := ⟨Try.underlying107, Try.t107, rfl, rfl, rfl, rfl⟩
instance ty108 : Ty Try.prog 108 (TypeDesc.int IntKind.i64) 1 8 (Value.int IntKind.i64 0) := ⟨Try.underlying108, Try.t108, rfl, rfl, rfl, rfl⟩
instance ty109 : Ty Try.prog 109 (TypeDesc.tuple #[3, 108]) 1 0 (Value.tuple #[Value.int IntKind.i64 0, Value.int IntKind.i64 0]) := ⟨Try.underlying109, Try.t109, rfl, rfl, rfl, rfl⟩
instance ty110 : Ty Try.prog 110 (TypeDesc.func #[36, 3, 3, 93] #[3, 108] false) 1 8 Value.nilFunc := ⟨Try.underlying110, Try.t110, rfl, rfl, rfl, rfl⟩
instance ty111 : Ty Try.prog 111 (TypeDesc.func #[36, 3, 3, 93] #[4] false) 1 8 Value.nilFunc := ⟨Try.underlying111, Try.t111, rfl, rfl, rfl, rfl⟩
instance ty112 : Ty Try.prog 112 (TypeDesc.func #[36, 3, 3, 3, 93] #[3] false) 1 8 Value.nilFunc := ⟨Try.underlying112, Try.t112, rfl, rfl, rfl, rfl⟩
instance ty113 : Ty Try.prog 113 (TypeDesc.tuple #[3, 4]) 1 0 (Value.tuple #[Value.int IntKind.i64 0, Value.bool false]) := ⟨Try.underlying113, Try.t113, rfl, rfl, rfl, rfl⟩
instance ty114 : Ty Try.prog 114 (TypeDesc.func #[36, 3, 3, 3, 93] #[3, 4] false) 1 8 Value.nilFunc := ⟨Try.underlying114, Try.t114, rfl, rfl, rfl, rfl⟩
instance ty115 : Ty Try.prog 115 (TypeDesc.func #[101] #[3] false) 1 8 Value.nilFunc := ⟨Try.underlying115, Try.t115, rfl, rfl, rfl, rfl⟩
instance ty116 : Ty Try.prog 116 (TypeDesc.func #[104] #[3] false) 1 8 Value.nilFunc := ⟨Try.underlying116, Try.t116, rfl, rfl, rfl, rfl⟩
instance ty117 : Ty Try.prog 117 (TypeDesc.int IntKind.u64) 1 8 (Value.int IntKind.u64 0) := ⟨Try.underlying117, Try.t117, rfl, rfl, rfl, rfl⟩
instance ty118 : Ty Try.prog 118 (TypeDesc.func #[3] #[95] false) 1 8 Value.nilFunc := ⟨Try.underlying118, Try.t118, rfl, rfl, rfl, rfl⟩
instance ty119 : Ty Try.prog 119 (TypeDesc.func #[] #[104] false) 1 8 Value.nilFunc := ⟨Try.underlying119, Try.t119, rfl, rfl, rfl, rfl⟩
instance ty120 : Ty Try.prog 120 (TypeDesc.func #[36, 3, 121, 93] #[3] false) 1 8 Value.nilFunc := ⟨Try.underlying120, Try.t120, rfl, rfl, rfl, rfl⟩
instance ty121 : Ty Try.prog 121 (TypeDesc.pointer 3) 1 8 (Value.pointer none) := ⟨Try.underlying121, Try.t121, rfl, rfl, rfl, rfl⟩
instance ty122 : Ty Try.prog 122 (TypeDesc.func #[36, 3, 3, 3, 121, 93] #[3] false) 1 8 Value.nilFunc := ⟨Try.underlying122, Try.t122, rfl, rfl, rfl, rfl⟩
instance ty123 : Ty Try.prog 123 (TypeDesc.pointer 117) 1 8 (Value.pointer none) := ⟨Try.underlying123, Try.t123, rfl, rfl, rfl, rfl⟩
instance ty124 : Ty Try.prog 124 (TypeDesc.tuple #[3, 3]) 1 0 (Value.tuple #[Value.int IntKind.i64 0, Value.int IntKind.i64 0]) := ⟨Try.underlying124, Try.t124, rfl, rfl, rfl, rfl⟩
instance ty125 : Ty Try.prog 125 (TypeDesc.func #[36, 3, 3, 121, 93] #[3, 3] false) 1 8 Value.nilFunc := ⟨Try.underlying125, Try.t125, rfl, rfl, rfl, rfl⟩
instance ty126 : Ty Try.prog 126 (TypeDesc.func #[] #[9] false) 1 8 Value.nilFunc := ⟨Try.underlying126, Try.t126, rfl, rfl, rfl, rfl⟩
instance ty127 : Ty Try.prog 127 (TypeDesc.struct
      #[{ name := "_interface", type := 17, offset := 0, embedded := false, tag := "", pkgPath := "runtime",
          byteOffset := 0 },
        { name := "concrete", type := 17, offset := 1, embedded := false, tag := "", pkgPath := "runtime",
          byteOffset := 8 },
        { name := "asserted", type := 17, offset := 2, embedded := false, tag := "", pkgPath := "runtime",
          byteOffset := 16 },
        { name := "missingMethod", type := 9, offset := 3, embedded := false, tag := "", pkgPath := "runtime",
          byteOffset := 24 }]) 4 40 (Value.agg #[Value.pointer none, Value.pointer none, Value.pointer none, Value.string { data := #[] }]) := ⟨Try.underlying127, Try.t127, rfl, rfl, rfl, rfl⟩
instance ty128 : Ty Try.prog 128 (TypeDesc.struct
      #[{ name := "_interface", type := 17, offset := 0, embedded := false, tag := "", pkgPath := "runtime",
          byteOffset := 0 },
        { name := "concrete", type := 17, offset := 1, embedded := false, tag := "", pkgPath := "runtime",
          byteOffset := 8 },
        { name := "asserted", type := 17, offset := 2, embedded := false, tag := "", pkgPath := "runtime",
          byteOffset := 16 },
        { name := "missingMethod", type := 9, offset := 3, embedded := false, tag := "", pkgPath := "runtime",
          byteOffset := 24 }]) 4 40 (Value.agg #[Value.pointer none, Value.pointer none, Value.pointer none, Value.string { data := #[] }]) := ⟨Try.underlying128, Try.t128, rfl, rfl, rfl, rfl⟩
instance ty129 : Ty Try.prog 129 (TypeDesc.array 0 16) 0 0 (Value.agg #[]) := ⟨Try.underlying129, Try.t129, rfl, rfl, rfl, rfl⟩
instance ty130 : Ty Try.prog 130 (TypeDesc.struct
      #[{ name := "_", type := 129, offset := 0, embedded := false, tag := "", pkgPath := "runtime", byteOffset := 0 }]) 0 0 (Value.agg #[]) := ⟨Try.underlying130, Try.t130, rfl, rfl, rfl, rfl⟩
instance ty131 : Ty Try.prog 131 (TypeDesc.struct
      #[{ name := "_", type := 129, offset := 0, embedded := false, tag := "", pkgPath := "runtime", byteOffset := 0 }]) 0 0 (Value.agg #[]) := ⟨Try.underlying131, Try.t131, rfl, rfl, rfl, rfl⟩
instance ty132 : Ty Try.prog 132 (TypeDesc.func #[] #[3] false) 1 8 Value.nilFunc := ⟨Try.underlying132, Try.t132, rfl, rfl, rfl, rfl⟩
instance ty133 : Ty Try.prog 133 (TypeDesc.int IntKind.u8) 1 1 (Value.int IntKind.u8 0) := ⟨Try.underlying133, Try.t133, rfl, rfl, rfl, rfl⟩
instance ty134 : Ty Try.prog 134 (TypeDesc.int IntKind.u8) 1 1 (Value.int IntKind.u8 0) := ⟨Try.underlying134, Try.t134, rfl, rfl, rfl, rfl⟩
instance ty135 : Ty Try.prog 135 (TypeDesc.func #[141, 141] #[4] false) 1 8 Value.nilFunc := ⟨Try.underlying135, Try.t135, rfl, rfl, rfl, rfl⟩
instance ty136 : Ty Try.prog 136 (TypeDesc.pointer 5) 1 8 (Value.pointer none) := ⟨Try.underlying136, Try.t136, rfl, rfl, rfl, rfl⟩
instance ty137 : Ty Try.prog 137 (TypeDesc.int IntKind.i32) 1 4 (Value.int IntKind.i32 0) := ⟨Try.underlying137, Try.t137, rfl, rfl, rfl, rfl⟩
instance ty138 : Ty Try.prog 138 (TypeDesc.int IntKind.i32) 1 4 (Value.int IntKind.i32 0) := ⟨Try.underlying138, Try.t138, rfl, rfl, rfl, rfl⟩
instance ty139 : Ty Try.prog 139 (TypeDesc.struct
      #[{ name := "Size_", type := 12, offset := 0, embedded := false, tag := "", pkgPath := "", byteOffset := 0 },
        { name := "PtrBytes", type := 12, offset := 1, embedded := false, tag := "", pkgPath := "", byteOffset := 8 },
        { name := "Hash", type := 101, offset := 2, embedded := false, tag := "", pkgPath := "", byteOffset := 16 },
        { name := "TFlag", type := 133, offset := 3, embedded := false, tag := "", pkgPath := "", byteOffset := 20 },
        { name := "Align_", type := 5, offset := 4, embedded := false, tag := "", pkgPath := "", byteOffset := 21 },
        { name := "FieldAlign_", type := 5, offset := 5, embedded := false, tag := "", pkgPath := "",
          byteOffset := 22 },
        { name := "Kind_", type := 134, offset := 6, embedded := false, tag := "", pkgPath := "", byteOffset := 23 },
        { name := "Equal", type := 135, offset := 7, embedded := false, tag := "", pkgPath := "", byteOffset := 24 },
        { name := "GCData", type := 136, offset := 8, embedded := false, tag := "", pkgPath := "", byteOffset := 32 },
        { name := "Str", type := 137, offset := 9, embedded := false, tag := "", pkgPath := "", byteOffset := 40 },
        { name := "PtrToThis", type := 138, offset := 10, embedded := false, tag := "", pkgPath := "",
          byteOffset := 44 }]) 11 48 (Value.agg
        #[Value.int IntKind.u64 0, Value.int IntKind.u64 0, Value.int IntKind.u32 0, Value.int IntKind.u8 0,
          Value.int IntKind.u8 0, Value.int IntKind.u8 0, Value.int IntKind.u8 0, Value.nilFunc, Value.pointer none,
          Value.int IntKind.i32 0, Value.int IntKind.i32 0]) := ⟨Try.underlying139, Try.t139, rfl, rfl, rfl, rfl⟩
instance ty140 : Ty Try.prog 140 (TypeDesc.struct
      #[{ name := "Size_", type := 12, offset := 0, embedded := false, tag := "", pkgPath := "", byteOffset := 0 },
        { name := "PtrBytes", type := 12, offset := 1, embedded := false, tag := "", pkgPath := "", byteOffset := 8 },
        { name := "Hash", type := 101, offset := 2, embedded := false, tag := "", pkgPath := "", byteOffset := 16 },
        { name := "TFlag", type := 133, offset := 3, embedded := false, tag := "", pkgPath := "", byteOffset := 20 },
        { name := "Align_", type := 5, offset := 4, embedded := false, tag := "", pkgPath := "", byteOffset := 21 },
        { name := "FieldAlign_", type := 5, offset := 5, embedded := false, tag := "", pkgPath := "",
          byteOffset := 22 },
        { name := "Kind_", type := 134, offset := 6, embedded := false, tag := "", pkgPath := "", byteOffset := 23 },
        { name := "Equal", type := 135, offset := 7, embedded := false, tag := "", pkgPath := "", byteOffset := 24 },
        { name := "GCData", type := 136, offset := 8, embedded := false, tag := "", pkgPath := "", byteOffset := 32 },
        { name := "Str", type := 137, offset := 9, embedded := false, tag := "", pkgPath := "", byteOffset := 40 },
        { name := "PtrToThis", type := 138, offset := 10, embedded := false, tag := "", pkgPath := "",
          byteOffset := 44 }]) 11 48 (Value.agg
        #[Value.int IntKind.u64 0, Value.int IntKind.u64 0, Value.int IntKind.u32 0, Value.int IntKind.u8 0,
          Value.int IntKind.u8 0, Value.int IntKind.u8 0, Value.int IntKind.u8 0, Value.nilFunc, Value.pointer none,
          Value.int IntKind.i32 0, Value.int IntKind.i32 0]) := ⟨Try.underlying140, Try.t140, rfl, rfl, rfl, rfl⟩
instance ty141 : Ty Try.prog 141 TypeDesc.unsafePointer 1 8 (Value.pointer none) := ⟨Try.underlying141, Try.t141, rfl, rfl, rfl, rfl⟩
instance fa7_0 : FieldAt Try.prog 7 0 0 := FieldAt.of (i := 0) Try.underlying7 rfl ty2 (by decide)
instance fo7_0 : FieldOf Try.prog 7 0 0 false 1 := FieldOf.of (i := 0) Try.underlying7 rfl ty2
instance fa7_1 : FieldAt Try.prog 7 1 1 := FieldAt.of (i := 1) Try.underlying7 rfl ty3 (by decide)
instance fo7_1 : FieldOf Try.prog 7 1 1 false 1 := FieldOf.of (i := 1) Try.underlying7 rfl ty3
instance fa7_2 : FieldAt Try.prog 7 2 2 := FieldAt.of (i := 2) Try.underlying7 rfl ty4 (by decide)
instance fo7_2 : FieldOf Try.prog 7 2 2 false 1 := FieldOf.of (i := 2) Try.underlying7 rfl ty4
instance fa7_3 : FieldAt Try.prog 7 3 3 := FieldAt.of (i := 3) Try.underlying7 rfl ty6 (by decide)
instance fo7_3 : FieldOf Try.prog 7 3 3 false 1 := FieldOf.of (i := 3) Try.underlying7 rfl ty6
instance bt7 : BuildT Try.prog 7 [(0, 1), (1, 1), (2, 1), (3, 1)] [Value.int IntKind.i64 0, Value.int IntKind.i64 0, Value.bool false, Value.int IntKind.u8 0] := BuildT.of Try.underlying7 Try.zeroValue7 (fun w => by kernel_rfl) (by decide)
instance fa8_0 : FieldAt Try.prog 8 0 0 := FieldAt.of (i := 0) Try.underlying8 rfl ty2 (by decide)
instance fo8_0 : FieldOf Try.prog 8 0 0 false 1 := FieldOf.of (i := 0) Try.underlying8 rfl ty2
instance fa8_1 : FieldAt Try.prog 8 1 1 := FieldAt.of (i := 1) Try.underlying8 rfl ty3 (by decide)
instance fo8_1 : FieldOf Try.prog 8 1 1 false 1 := FieldOf.of (i := 1) Try.underlying8 rfl ty3
instance fa8_2 : FieldAt Try.prog 8 2 2 := FieldAt.of (i := 2) Try.underlying8 rfl ty4 (by decide)
instance fo8_2 : FieldOf Try.prog 8 2 2 false 1 := FieldOf.of (i := 2) Try.underlying8 rfl ty4
instance fa8_3 : FieldAt Try.prog 8 3 3 := FieldAt.of (i := 3) Try.underlying8 rfl ty6 (by decide)
instance fo8_3 : FieldOf Try.prog 8 3 3 false 1 := FieldOf.of (i := 3) Try.underlying8 rfl ty6
instance bt8 : BuildT Try.prog 8 [(0, 1), (1, 1), (2, 1), (3, 1)] [Value.int IntKind.i64 0, Value.int IntKind.i64 0, Value.bool false, Value.int IntKind.u8 0] := BuildT.of Try.underlying8 Try.zeroValue8 (fun w => by kernel_rfl) (by decide)
instance fa13_0 : FieldAt Try.prog 13 0 0 := FieldAt.of (i := 0) Try.underlying13 rfl ty9 (by decide)
instance fo13_0 : FieldOf Try.prog 13 0 0 false 1 := FieldOf.of (i := 0) Try.underlying13 rfl ty9
instance fa13_1 : FieldAt Try.prog 13 1 1 := FieldAt.of (i := 1) Try.underlying13 rfl ty12 (by decide)
instance fo13_1 : FieldOf Try.prog 13 1 1 false 1 := FieldOf.of (i := 1) Try.underlying13 rfl ty12
instance bt13 : BuildT Try.prog 13 [(0, 1), (1, 1)] [Value.string { data := #[] }, Value.int IntKind.u64 0] := BuildT.of Try.underlying13 Try.zeroValue13 (fun w => by kernel_rfl) (by decide)
instance fa14_0 : FieldAt Try.prog 14 0 0 := FieldAt.of (i := 0) Try.underlying14 rfl ty9 (by decide)
instance fo14_0 : FieldOf Try.prog 14 0 0 false 1 := FieldOf.of (i := 0) Try.underlying14 rfl ty9
instance fa14_1 : FieldAt Try.prog 14 1 1 := FieldAt.of (i := 1) Try.underlying14 rfl ty12 (by decide)
instance fo14_1 : FieldOf Try.prog 14 1 1 false 1 := FieldOf.of (i := 1) Try.underlying14 rfl ty12
instance bt14 : BuildT Try.prog 14 [(0, 1), (1, 1)] [Value.string { data := #[] }, Value.int IntKind.u64 0] := BuildT.of Try.underlying14 Try.zeroValue14 (fun w => by kernel_rfl) (by decide)
instance fa18_0 : FieldAt Try.prog 18 0 0 := FieldAt.of (i := 0) Try.underlying18 rfl ty17 (by decide)
instance fo18_0 : FieldOf Try.prog 18 0 0 false 1 := FieldOf.of (i := 0) Try.underlying18 rfl ty17
instance bt18 : BuildT Try.prog 18 [(0, 1)] [Value.pointer none] := BuildT.of Try.underlying18 Try.zeroValue18 (fun w => by kernel_rfl) (by decide)
instance fa19_0 : FieldAt Try.prog 19 0 0 := FieldAt.of (i := 0) Try.underlying19 rfl ty17 (by decide)
instance fo19_0 : FieldOf Try.prog 19 0 0 false 1 := FieldOf.of (i := 0) Try.underlying19 rfl ty17
instance bt19 : BuildT Try.prog 19 [(0, 1)] [Value.pointer none] := BuildT.of Try.underlying19 Try.zeroValue19 (fun w => by kernel_rfl) (by decide)
instance fa49_0 : FieldAt Try.prog 49 0 0 := FieldAt.of (i := 0) Try.underlying49 rfl ty3 (by decide)
instance fo49_0 : FieldOf Try.prog 49 0 0 false 1 := FieldOf.of (i := 0) Try.underlying49 rfl ty3
instance fa49_1 : FieldAt Try.prog 49 1 1 := FieldAt.of (i := 1) Try.underlying49 rfl ty3 (by decide)
instance fo49_1 : FieldOf Try.prog 49 1 1 false 1 := FieldOf.of (i := 1) Try.underlying49 rfl ty3
instance fa49_2 : FieldAt Try.prog 49 2 2 := FieldAt.of (i := 2) Try.underlying49 rfl ty3 (by decide)
instance fo49_2 : FieldOf Try.prog 49 2 2 false 1 := FieldOf.of (i := 2) Try.underlying49 rfl ty3
instance fa49_3 : FieldAt Try.prog 49 3 3 := FieldAt.of (i := 3) Try.underlying49 rfl ty3 (by decide)
instance fo49_3 : FieldOf Try.prog 49 3 3 false 1 := FieldOf.of (i := 3) Try.underlying49 rfl ty3
instance bt49 : BuildT Try.prog 49 [(0, 1), (1, 1), (2, 1), (3, 1)] [Value.int IntKind.i64 0, Value.int IntKind.i64 0, Value.int IntKind.i64 0, Value.int IntKind.i64 0] := BuildT.of Try.underlying49 Try.zeroValue49 (fun w => by kernel_rfl) (by decide)
instance fa50_0 : FieldAt Try.prog 50 0 0 := FieldAt.of (i := 0) Try.underlying50 rfl ty3 (by decide)
instance fo50_0 : FieldOf Try.prog 50 0 0 false 1 := FieldOf.of (i := 0) Try.underlying50 rfl ty3
instance fa50_1 : FieldAt Try.prog 50 1 1 := FieldAt.of (i := 1) Try.underlying50 rfl ty3 (by decide)
instance fo50_1 : FieldOf Try.prog 50 1 1 false 1 := FieldOf.of (i := 1) Try.underlying50 rfl ty3
instance fa50_2 : FieldAt Try.prog 50 2 2 := FieldAt.of (i := 2) Try.underlying50 rfl ty3 (by decide)
instance fo50_2 : FieldOf Try.prog 50 2 2 false 1 := FieldOf.of (i := 2) Try.underlying50 rfl ty3
instance fa50_3 : FieldAt Try.prog 50 3 3 := FieldAt.of (i := 3) Try.underlying50 rfl ty3 (by decide)
instance fo50_3 : FieldOf Try.prog 50 3 3 false 1 := FieldOf.of (i := 3) Try.underlying50 rfl ty3
instance bt50 : BuildT Try.prog 50 [(0, 1), (1, 1), (2, 1), (3, 1)] [Value.int IntKind.i64 0, Value.int IntKind.i64 0, Value.int IntKind.i64 0, Value.int IntKind.i64 0] := BuildT.of Try.underlying50 Try.zeroValue50 (fun w => by kernel_rfl) (by decide)
instance fa57_0 : FieldAt Try.prog 57 0 0 := FieldAt.of (i := 0) Try.underlying57 rfl ty3 (by decide)
instance fo57_0 : FieldOf Try.prog 57 0 0 false 1 := FieldOf.of (i := 0) Try.underlying57 rfl ty3
instance fa57_1 : FieldAt Try.prog 57 1 1 := FieldAt.of (i := 1) Try.underlying57 rfl ty3 (by decide)
instance fo57_1 : FieldOf Try.prog 57 1 1 false 1 := FieldOf.of (i := 1) Try.underlying57 rfl ty3
instance fa57_2 : FieldAt Try.prog 57 2 2 := FieldAt.of (i := 2) Try.underlying57 rfl ty56 (by decide)
instance fo57_2 : FieldOf Try.prog 57 2 2 true 16 := FieldOf.of (i := 2) Try.underlying57 rfl ty56
instance fa57_3 : FieldAt Try.prog 57 3 18 := FieldAt.of (i := 3) Try.underlying57 rfl ty3 (by decide)
instance fo57_3 : FieldOf Try.prog 57 3 18 false 1 := FieldOf.of (i := 3) Try.underlying57 rfl ty3
instance fa57_4 : FieldAt Try.prog 57 4 19 := FieldAt.of (i := 4) Try.underlying57 rfl ty23 (by decide)
instance fo57_4 : FieldOf Try.prog 57 4 19 false 1 := FieldOf.of (i := 4) Try.underlying57 rfl ty23
instance fa57_5 : FieldAt Try.prog 57 5 20 := FieldAt.of (i := 5) Try.underlying57 rfl ty4 (by decide)
instance fo57_5 : FieldOf Try.prog 57 5 20 false 1 := FieldOf.of (i := 5) Try.underlying57 rfl ty4
instance bt57 : BuildT Try.prog 57 [(0, 1), (1, 1), (2, 16), (18, 1), (19, 1), (20, 1)] [Value.int IntKind.i64 0, Value.int IntKind.i64 0, Value.int IntKind.i64 0, Value.int IntKind.i64 0,
          Value.int IntKind.i64 0, Value.int IntKind.i64 0, Value.int IntKind.i64 0, Value.int IntKind.i64 0,
          Value.int IntKind.i64 0, Value.int IntKind.i64 0, Value.int IntKind.i64 0, Value.int IntKind.i64 0,
          Value.int IntKind.i64 0, Value.int IntKind.i64 0, Value.int IntKind.i64 0, Value.int IntKind.i64 0,
          Value.int IntKind.i64 0, Value.int IntKind.i64 0, Value.int IntKind.i64 0, Value.slice none 0 0,
          Value.bool false] := BuildT.of Try.underlying57 Try.zeroValue57 (fun w => by kernel_rfl) (by decide)
instance fa58_0 : FieldAt Try.prog 58 0 0 := FieldAt.of (i := 0) Try.underlying58 rfl ty3 (by decide)
instance fo58_0 : FieldOf Try.prog 58 0 0 false 1 := FieldOf.of (i := 0) Try.underlying58 rfl ty3
instance fa58_1 : FieldAt Try.prog 58 1 1 := FieldAt.of (i := 1) Try.underlying58 rfl ty3 (by decide)
instance fo58_1 : FieldOf Try.prog 58 1 1 false 1 := FieldOf.of (i := 1) Try.underlying58 rfl ty3
instance fa58_2 : FieldAt Try.prog 58 2 2 := FieldAt.of (i := 2) Try.underlying58 rfl ty56 (by decide)
instance fo58_2 : FieldOf Try.prog 58 2 2 true 16 := FieldOf.of (i := 2) Try.underlying58 rfl ty56
instance fa58_3 : FieldAt Try.prog 58 3 18 := FieldAt.of (i := 3) Try.underlying58 rfl ty3 (by decide)
instance fo58_3 : FieldOf Try.prog 58 3 18 false 1 := FieldOf.of (i := 3) Try.underlying58 rfl ty3
instance fa58_4 : FieldAt Try.prog 58 4 19 := FieldAt.of (i := 4) Try.underlying58 rfl ty23 (by decide)
instance fo58_4 : FieldOf Try.prog 58 4 19 false 1 := FieldOf.of (i := 4) Try.underlying58 rfl ty23
instance fa58_5 : FieldAt Try.prog 58 5 20 := FieldAt.of (i := 5) Try.underlying58 rfl ty4 (by decide)
instance fo58_5 : FieldOf Try.prog 58 5 20 false 1 := FieldOf.of (i := 5) Try.underlying58 rfl ty4
instance bt58 : BuildT Try.prog 58 [(0, 1), (1, 1), (2, 16), (18, 1), (19, 1), (20, 1)] [Value.int IntKind.i64 0, Value.int IntKind.i64 0, Value.int IntKind.i64 0, Value.int IntKind.i64 0,
          Value.int IntKind.i64 0, Value.int IntKind.i64 0, Value.int IntKind.i64 0, Value.int IntKind.i64 0,
          Value.int IntKind.i64 0, Value.int IntKind.i64 0, Value.int IntKind.i64 0, Value.int IntKind.i64 0,
          Value.int IntKind.i64 0, Value.int IntKind.i64 0, Value.int IntKind.i64 0, Value.int IntKind.i64 0,
          Value.int IntKind.i64 0, Value.int IntKind.i64 0, Value.int IntKind.i64 0, Value.slice none 0 0,
          Value.bool false] := BuildT.of Try.underlying58 Try.zeroValue58 (fun w => by kernel_rfl) (by decide)
instance fa71_0 : FieldAt Try.prog 71 0 0 := FieldAt.of (i := 0) Try.underlying71 rfl ty3 (by decide)
instance fo71_0 : FieldOf Try.prog 71 0 0 false 1 := FieldOf.of (i := 0) Try.underlying71 rfl ty3
instance fa71_1 : FieldAt Try.prog 71 1 1 := FieldAt.of (i := 1) Try.underlying71 rfl ty3 (by decide)
instance fo71_1 : FieldOf Try.prog 71 1 1 false 1 := FieldOf.of (i := 1) Try.underlying71 rfl ty3
instance fa71_2 : FieldAt Try.prog 71 2 2 := FieldAt.of (i := 2) Try.underlying71 rfl ty56 (by decide)
instance fo71_2 : FieldOf Try.prog 71 2 2 true 16 := FieldOf.of (i := 2) Try.underlying71 rfl ty56
instance fa71_3 : FieldAt Try.prog 71 3 18 := FieldAt.of (i := 3) Try.underlying71 rfl ty3 (by decide)
instance fo71_3 : FieldOf Try.prog 71 3 18 false 1 := FieldOf.of (i := 3) Try.underlying71 rfl ty3
instance fa71_4 : FieldAt Try.prog 71 4 19 := FieldAt.of (i := 4) Try.underlying71 rfl ty23 (by decide)
instance fo71_4 : FieldOf Try.prog 71 4 19 false 1 := FieldOf.of (i := 4) Try.underlying71 rfl ty23
instance fa71_5 : FieldAt Try.prog 71 5 20 := FieldAt.of (i := 5) Try.underlying71 rfl ty4 (by decide)
instance fo71_5 : FieldOf Try.prog 71 5 20 false 1 := FieldOf.of (i := 5) Try.underlying71 rfl ty4
instance fa71_6 : FieldAt Try.prog 71 6 21 := FieldAt.of (i := 6) Try.underlying71 rfl ty4 (by decide)
instance fo71_6 : FieldOf Try.prog 71 6 21 false 1 := FieldOf.of (i := 6) Try.underlying71 rfl ty4
instance bt71 : BuildT Try.prog 71 [(0, 1), (1, 1), (2, 16), (18, 1), (19, 1), (20, 1), (21, 1)] [Value.int IntKind.i64 0, Value.int IntKind.i64 0, Value.int IntKind.i64 0, Value.int IntKind.i64 0,
          Value.int IntKind.i64 0, Value.int IntKind.i64 0, Value.int IntKind.i64 0, Value.int IntKind.i64 0,
          Value.int IntKind.i64 0, Value.int IntKind.i64 0, Value.int IntKind.i64 0, Value.int IntKind.i64 0,
          Value.int IntKind.i64 0, Value.int IntKind.i64 0, Value.int IntKind.i64 0, Value.int IntKind.i64 0,
          Value.int IntKind.i64 0, Value.int IntKind.i64 0, Value.int IntKind.i64 0, Value.slice none 0 0,
          Value.bool false, Value.bool false] := BuildT.of Try.underlying71 Try.zeroValue71 (fun w => by kernel_rfl) (by decide)
instance fa72_0 : FieldAt Try.prog 72 0 0 := FieldAt.of (i := 0) Try.underlying72 rfl ty3 (by decide)
instance fo72_0 : FieldOf Try.prog 72 0 0 false 1 := FieldOf.of (i := 0) Try.underlying72 rfl ty3
instance fa72_1 : FieldAt Try.prog 72 1 1 := FieldAt.of (i := 1) Try.underlying72 rfl ty3 (by decide)
instance fo72_1 : FieldOf Try.prog 72 1 1 false 1 := FieldOf.of (i := 1) Try.underlying72 rfl ty3
instance fa72_2 : FieldAt Try.prog 72 2 2 := FieldAt.of (i := 2) Try.underlying72 rfl ty56 (by decide)
instance fo72_2 : FieldOf Try.prog 72 2 2 true 16 := FieldOf.of (i := 2) Try.underlying72 rfl ty56
instance fa72_3 : FieldAt Try.prog 72 3 18 := FieldAt.of (i := 3) Try.underlying72 rfl ty3 (by decide)
instance fo72_3 : FieldOf Try.prog 72 3 18 false 1 := FieldOf.of (i := 3) Try.underlying72 rfl ty3
instance fa72_4 : FieldAt Try.prog 72 4 19 := FieldAt.of (i := 4) Try.underlying72 rfl ty23 (by decide)
instance fo72_4 : FieldOf Try.prog 72 4 19 false 1 := FieldOf.of (i := 4) Try.underlying72 rfl ty23
instance fa72_5 : FieldAt Try.prog 72 5 20 := FieldAt.of (i := 5) Try.underlying72 rfl ty4 (by decide)
instance fo72_5 : FieldOf Try.prog 72 5 20 false 1 := FieldOf.of (i := 5) Try.underlying72 rfl ty4
instance fa72_6 : FieldAt Try.prog 72 6 21 := FieldAt.of (i := 6) Try.underlying72 rfl ty4 (by decide)
instance fo72_6 : FieldOf Try.prog 72 6 21 false 1 := FieldOf.of (i := 6) Try.underlying72 rfl ty4
instance bt72 : BuildT Try.prog 72 [(0, 1), (1, 1), (2, 16), (18, 1), (19, 1), (20, 1), (21, 1)] [Value.int IntKind.i64 0, Value.int IntKind.i64 0, Value.int IntKind.i64 0, Value.int IntKind.i64 0,
          Value.int IntKind.i64 0, Value.int IntKind.i64 0, Value.int IntKind.i64 0, Value.int IntKind.i64 0,
          Value.int IntKind.i64 0, Value.int IntKind.i64 0, Value.int IntKind.i64 0, Value.int IntKind.i64 0,
          Value.int IntKind.i64 0, Value.int IntKind.i64 0, Value.int IntKind.i64 0, Value.int IntKind.i64 0,
          Value.int IntKind.i64 0, Value.int IntKind.i64 0, Value.int IntKind.i64 0, Value.slice none 0 0,
          Value.bool false, Value.bool false] := BuildT.of Try.underlying72 Try.zeroValue72 (fun w => by kernel_rfl) (by decide)
instance fa83_0 : FieldAt Try.prog 83 0 0 := FieldAt.of (i := 0) Try.underlying83 rfl ty50 (by decide)
instance fo83_0 : FieldOf Try.prog 83 0 0 true 4 := FieldOf.of (i := 0) Try.underlying83 rfl ty50
instance fa83_1 : FieldAt Try.prog 83 1 4 := FieldAt.of (i := 1) Try.underlying83 rfl ty3 (by decide)
instance fo83_1 : FieldOf Try.prog 83 1 4 false 1 := FieldOf.of (i := 1) Try.underlying83 rfl ty3
instance fa83_2 : FieldAt Try.prog 83 2 5 := FieldAt.of (i := 2) Try.underlying83 rfl ty3 (by decide)
instance fo83_2 : FieldOf Try.prog 83 2 5 false 1 := FieldOf.of (i := 2) Try.underlying83 rfl ty3
instance fa83_3 : FieldAt Try.prog 83 3 6 := FieldAt.of (i := 3) Try.underlying83 rfl ty4 (by decide)
instance fo83_3 : FieldOf Try.prog 83 3 6 false 1 := FieldOf.of (i := 3) Try.underlying83 rfl ty4
instance bt83 : BuildT Try.prog 83 [(0, 4), (4, 1), (5, 1), (6, 1)] [Value.int IntKind.i64 0, Value.int IntKind.i64 0, Value.int IntKind.i64 0, Value.int IntKind.i64 0,
          Value.int IntKind.i64 0, Value.int IntKind.i64 0, Value.bool false] := BuildT.of Try.underlying83 Try.zeroValue83 (fun w => by kernel_rfl) (by decide)
instance fa84_0 : FieldAt Try.prog 84 0 0 := FieldAt.of (i := 0) Try.underlying84 rfl ty50 (by decide)
instance fo84_0 : FieldOf Try.prog 84 0 0 true 4 := FieldOf.of (i := 0) Try.underlying84 rfl ty50
instance fa84_1 : FieldAt Try.prog 84 1 4 := FieldAt.of (i := 1) Try.underlying84 rfl ty3 (by decide)
instance fo84_1 : FieldOf Try.prog 84 1 4 false 1 := FieldOf.of (i := 1) Try.underlying84 rfl ty3
instance fa84_2 : FieldAt Try.prog 84 2 5 := FieldAt.of (i := 2) Try.underlying84 rfl ty3 (by decide)
instance fo84_2 : FieldOf Try.prog 84 2 5 false 1 := FieldOf.of (i := 2) Try.underlying84 rfl ty3
instance fa84_3 : FieldAt Try.prog 84 3 6 := FieldAt.of (i := 3) Try.underlying84 rfl ty4 (by decide)
instance fo84_3 : FieldOf Try.prog 84 3 6 false 1 := FieldOf.of (i := 3) Try.underlying84 rfl ty4
instance bt84 : BuildT Try.prog 84 [(0, 4), (4, 1), (5, 1), (6, 1)] [Value.int IntKind.i64 0, Value.int IntKind.i64 0, Value.int IntKind.i64 0, Value.int IntKind.i64 0,
          Value.int IntKind.i64 0, Value.int IntKind.i64 0, Value.bool false] := BuildT.of Try.underlying84 Try.zeroValue84 (fun w => by kernel_rfl) (by decide)
instance fa127_0 : FieldAt Try.prog 127 0 0 := FieldAt.of (i := 0) Try.underlying127 rfl ty17 (by decide)
instance fo127_0 : FieldOf Try.prog 127 0 0 false 1 := FieldOf.of (i := 0) Try.underlying127 rfl ty17
instance fa127_1 : FieldAt Try.prog 127 1 1 := FieldAt.of (i := 1) Try.underlying127 rfl ty17 (by decide)
instance fo127_1 : FieldOf Try.prog 127 1 1 false 1 := FieldOf.of (i := 1) Try.underlying127 rfl ty17
instance fa127_2 : FieldAt Try.prog 127 2 2 := FieldAt.of (i := 2) Try.underlying127 rfl ty17 (by decide)
instance fo127_2 : FieldOf Try.prog 127 2 2 false 1 := FieldOf.of (i := 2) Try.underlying127 rfl ty17
instance fa127_3 : FieldAt Try.prog 127 3 3 := FieldAt.of (i := 3) Try.underlying127 rfl ty9 (by decide)
instance fo127_3 : FieldOf Try.prog 127 3 3 false 1 := FieldOf.of (i := 3) Try.underlying127 rfl ty9
instance bt127 : BuildT Try.prog 127 [(0, 1), (1, 1), (2, 1), (3, 1)] [Value.pointer none, Value.pointer none, Value.pointer none, Value.string { data := #[] }] := BuildT.of Try.underlying127 Try.zeroValue127 (fun w => by kernel_rfl) (by decide)
instance fa128_0 : FieldAt Try.prog 128 0 0 := FieldAt.of (i := 0) Try.underlying128 rfl ty17 (by decide)
instance fo128_0 : FieldOf Try.prog 128 0 0 false 1 := FieldOf.of (i := 0) Try.underlying128 rfl ty17
instance fa128_1 : FieldAt Try.prog 128 1 1 := FieldAt.of (i := 1) Try.underlying128 rfl ty17 (by decide)
instance fo128_1 : FieldOf Try.prog 128 1 1 false 1 := FieldOf.of (i := 1) Try.underlying128 rfl ty17
instance fa128_2 : FieldAt Try.prog 128 2 2 := FieldAt.of (i := 2) Try.underlying128 rfl ty17 (by decide)
instance fo128_2 : FieldOf Try.prog 128 2 2 false 1 := FieldOf.of (i := 2) Try.underlying128 rfl ty17
instance fa128_3 : FieldAt Try.prog 128 3 3 := FieldAt.of (i := 3) Try.underlying128 rfl ty9 (by decide)
instance fo128_3 : FieldOf Try.prog 128 3 3 false 1 := FieldOf.of (i := 3) Try.underlying128 rfl ty9
instance bt128 : BuildT Try.prog 128 [(0, 1), (1, 1), (2, 1), (3, 1)] [Value.pointer none, Value.pointer none, Value.pointer none, Value.string { data := #[] }] := BuildT.of Try.underlying128 Try.zeroValue128 (fun w => by kernel_rfl) (by decide)
instance fo130_0 : FieldOf Try.prog 130 0 0 true 0 := FieldOf.of (i := 0) Try.underlying130 rfl ty129
instance bt130 : BuildT Try.prog 130 [(0, 0)] [] := BuildT.of Try.underlying130 Try.zeroValue130 (fun w => by kernel_rfl) (by decide)
instance fo131_0 : FieldOf Try.prog 131 0 0 true 0 := FieldOf.of (i := 0) Try.underlying131 rfl ty129
instance bt131 : BuildT Try.prog 131 [(0, 0)] [] := BuildT.of Try.underlying131 Try.zeroValue131 (fun w => by kernel_rfl) (by decide)
instance fa139_0 : FieldAt Try.prog 139 0 0 := FieldAt.of (i := 0) Try.underlying139 rfl ty12 (by decide)
instance fo139_0 : FieldOf Try.prog 139 0 0 false 1 := FieldOf.of (i := 0) Try.underlying139 rfl ty12
instance fa139_1 : FieldAt Try.prog 139 1 1 := FieldAt.of (i := 1) Try.underlying139 rfl ty12 (by decide)
instance fo139_1 : FieldOf Try.prog 139 1 1 false 1 := FieldOf.of (i := 1) Try.underlying139 rfl ty12
instance fa139_2 : FieldAt Try.prog 139 2 2 := FieldAt.of (i := 2) Try.underlying139 rfl ty101 (by decide)
instance fo139_2 : FieldOf Try.prog 139 2 2 false 1 := FieldOf.of (i := 2) Try.underlying139 rfl ty101
instance fa139_3 : FieldAt Try.prog 139 3 3 := FieldAt.of (i := 3) Try.underlying139 rfl ty133 (by decide)
instance fo139_3 : FieldOf Try.prog 139 3 3 false 1 := FieldOf.of (i := 3) Try.underlying139 rfl ty133
instance fa139_4 : FieldAt Try.prog 139 4 4 := FieldAt.of (i := 4) Try.underlying139 rfl ty5 (by decide)
instance fo139_4 : FieldOf Try.prog 139 4 4 false 1 := FieldOf.of (i := 4) Try.underlying139 rfl ty5
instance fa139_5 : FieldAt Try.prog 139 5 5 := FieldAt.of (i := 5) Try.underlying139 rfl ty5 (by decide)
instance fo139_5 : FieldOf Try.prog 139 5 5 false 1 := FieldOf.of (i := 5) Try.underlying139 rfl ty5
instance fa139_6 : FieldAt Try.prog 139 6 6 := FieldAt.of (i := 6) Try.underlying139 rfl ty134 (by decide)
instance fo139_6 : FieldOf Try.prog 139 6 6 false 1 := FieldOf.of (i := 6) Try.underlying139 rfl ty134
instance fa139_7 : FieldAt Try.prog 139 7 7 := FieldAt.of (i := 7) Try.underlying139 rfl ty135 (by decide)
instance fo139_7 : FieldOf Try.prog 139 7 7 false 1 := FieldOf.of (i := 7) Try.underlying139 rfl ty135
instance fa139_8 : FieldAt Try.prog 139 8 8 := FieldAt.of (i := 8) Try.underlying139 rfl ty136 (by decide)
instance fo139_8 : FieldOf Try.prog 139 8 8 false 1 := FieldOf.of (i := 8) Try.underlying139 rfl ty136
instance fa139_9 : FieldAt Try.prog 139 9 9 := FieldAt.of (i := 9) Try.underlying139 rfl ty137 (by decide)
instance fo139_9 : FieldOf Try.prog 139 9 9 false 1 := FieldOf.of (i := 9) Try.underlying139 rfl ty137
instance fa139_10 : FieldAt Try.prog 139 10 10 := FieldAt.of (i := 10) Try.underlying139 rfl ty138 (by decide)
instance fo139_10 : FieldOf Try.prog 139 10 10 false 1 := FieldOf.of (i := 10) Try.underlying139 rfl ty138
instance bt139 : BuildT Try.prog 139 [(0, 1), (1, 1), (2, 1), (3, 1), (4, 1), (5, 1), (6, 1), (7, 1), (8, 1), (9, 1), (10, 1)] [Value.int IntKind.u64 0, Value.int IntKind.u64 0, Value.int IntKind.u32 0, Value.int IntKind.u8 0,
          Value.int IntKind.u8 0, Value.int IntKind.u8 0, Value.int IntKind.u8 0, Value.nilFunc, Value.pointer none,
          Value.int IntKind.i32 0, Value.int IntKind.i32 0] := BuildT.of Try.underlying139 Try.zeroValue139 (fun w => by kernel_rfl) (by decide)
instance fa140_0 : FieldAt Try.prog 140 0 0 := FieldAt.of (i := 0) Try.underlying140 rfl ty12 (by decide)
instance fo140_0 : FieldOf Try.prog 140 0 0 false 1 := FieldOf.of (i := 0) Try.underlying140 rfl ty12
instance fa140_1 : FieldAt Try.prog 140 1 1 := FieldAt.of (i := 1) Try.underlying140 rfl ty12 (by decide)
instance fo140_1 : FieldOf Try.prog 140 1 1 false 1 := FieldOf.of (i := 1) Try.underlying140 rfl ty12
instance fa140_2 : FieldAt Try.prog 140 2 2 := FieldAt.of (i := 2) Try.underlying140 rfl ty101 (by decide)
instance fo140_2 : FieldOf Try.prog 140 2 2 false 1 := FieldOf.of (i := 2) Try.underlying140 rfl ty101
instance fa140_3 : FieldAt Try.prog 140 3 3 := FieldAt.of (i := 3) Try.underlying140 rfl ty133 (by decide)
instance fo140_3 : FieldOf Try.prog 140 3 3 false 1 := FieldOf.of (i := 3) Try.underlying140 rfl ty133
instance fa140_4 : FieldAt Try.prog 140 4 4 := FieldAt.of (i := 4) Try.underlying140 rfl ty5 (by decide)
instance fo140_4 : FieldOf Try.prog 140 4 4 false 1 := FieldOf.of (i := 4) Try.underlying140 rfl ty5
instance fa140_5 : FieldAt Try.prog 140 5 5 := FieldAt.of (i := 5) Try.underlying140 rfl ty5 (by decide)
instance fo140_5 : FieldOf Try.prog 140 5 5 false 1 := FieldOf.of (i := 5) Try.underlying140 rfl ty5
instance fa140_6 : FieldAt Try.prog 140 6 6 := FieldAt.of (i := 6) Try.underlying140 rfl ty134 (by decide)
instance fo140_6 : FieldOf Try.prog 140 6 6 false 1 := FieldOf.of (i := 6) Try.underlying140 rfl ty134
instance fa140_7 : FieldAt Try.prog 140 7 7 := FieldAt.of (i := 7) Try.underlying140 rfl ty135 (by decide)
instance fo140_7 : FieldOf Try.prog 140 7 7 false 1 := FieldOf.of (i := 7) Try.underlying140 rfl ty135
instance fa140_8 : FieldAt Try.prog 140 8 8 := FieldAt.of (i := 8) Try.underlying140 rfl ty136 (by decide)
instance fo140_8 : FieldOf Try.prog 140 8 8 false 1 := FieldOf.of (i := 8) Try.underlying140 rfl ty136
instance fa140_9 : FieldAt Try.prog 140 9 9 := FieldAt.of (i := 9) Try.underlying140 rfl ty137 (by decide)
instance fo140_9 : FieldOf Try.prog 140 9 9 false 1 := FieldOf.of (i := 9) Try.underlying140 rfl ty137
instance fa140_10 : FieldAt Try.prog 140 10 10 := FieldAt.of (i := 10) Try.underlying140 rfl ty138 (by decide)
instance fo140_10 : FieldOf Try.prog 140 10 10 false 1 := FieldOf.of (i := 10) Try.underlying140 rfl ty138
instance bt140 : BuildT Try.prog 140 [(0, 1), (1, 1), (2, 1), (3, 1), (4, 1), (5, 1), (6, 1), (7, 1), (8, 1), (9, 1), (10, 1)] [Value.int IntKind.u64 0, Value.int IntKind.u64 0, Value.int IntKind.u32 0, Value.int IntKind.u8 0,
          Value.int IntKind.u8 0, Value.int IntKind.u8 0, Value.int IntKind.u8 0, Value.nilFunc, Value.pointer none,
          Value.int IntKind.i32 0, Value.int IntKind.i32 0] := BuildT.of Try.underlying140 Try.zeroValue140 (fun w => by kernel_rfl) (by decide)
instance kk2 : KeyT Try.prog 2 (.int .i64) := ⟨Try.underlying2⟩
instance kk3 : KeyT Try.prog 3 (.int .i64) := ⟨Try.underlying3⟩
instance kk4 : KeyT Try.prog 4 (.bool) := ⟨Try.underlying4⟩
instance kk5 : KeyT Try.prog 5 (.int .u8) := ⟨Try.underlying5⟩
instance kk6 : KeyT Try.prog 6 (.int .u8) := ⟨Try.underlying6⟩
instance kk9 : KeyT Try.prog 9 (.str) := ⟨Try.underlying9⟩
instance kk10 : KeyT Try.prog 10 (.str) := ⟨Try.underlying10⟩
instance kk11 : KeyT Try.prog 11 (.str) := ⟨Try.underlying11⟩
instance kk12 : KeyT Try.prog 12 (.int .u64) := ⟨Try.underlying12⟩
instance kk21 : KeyT Try.prog 21 (.int .i32) := ⟨Try.underlying21⟩
instance kk25 : KeyT Try.prog 25 (.int .i64) := ⟨Try.underlying25⟩
instance kk95 : KeyT Try.prog 95 (.int .u64) := ⟨Try.underlying95⟩
instance kk101 : KeyT Try.prog 101 (.int .u32) := ⟨Try.underlying101⟩
instance kk104 : KeyT Try.prog 104 (.int .u64) := ⟨Try.underlying104⟩
instance kk108 : KeyT Try.prog 108 (.int .i64) := ⟨Try.underlying108⟩
instance kk117 : KeyT Try.prog 117 (.int .u64) := ⟨Try.underlying117⟩
instance kk133 : KeyT Try.prog 133 (.int .u8) := ⟨Try.underlying133⟩
instance kk134 : KeyT Try.prog 134 (.int .u8) := ⟨Try.underlying134⟩
instance kk137 : KeyT Try.prog 137 (.int .i32) := ⟨Try.underlying137⟩
instance kk138 : KeyT Try.prog 138 (.int .i32) := ⟨Try.underlying138⟩
instance fe50 : FlatEq Try.prog 50 [(0, .int .i64), (1, .int .i64), (2, .int .i64), (3, .int .i64)] := ⟨by kernel_rfl, by kernel_rfl, _, Try.underlying50, flat_cons (by decide) rfl Try.underlying3 (flat_cons (by decide) rfl Try.underlying3 (flat_cons (by decide) rfl Try.underlying3 (flat_cons (by decide) rfl Try.underlying3 (flat_nil))))⟩
instance ae51 : ArrEq Try.prog 51 2 (.int .i64) := ⟨by kernel_rfl, _, _, Try.underlying51, rfl, rfl, Try.underlying3⟩
instance ae56 : ArrEq Try.prog 56 16 (.int .i64) := ⟨by kernel_rfl, _, _, Try.underlying56, rfl, rfl, Try.underlying3⟩
instance en2 : Ent Try.prog 2 := ⟨Try.call2⟩
instance en3 : Ent Try.prog 3 := ⟨Try.call3⟩
instance en4 : Ent Try.prog 4 := ⟨Try.call4⟩
instance en5 : Ent Try.prog 5 := ⟨Try.call5⟩
instance en6 : Ent Try.prog 6 := ⟨Try.call6⟩
instance en7 : Ent Try.prog 7 := ⟨Try.call7⟩
instance en8 : Ent Try.prog 8 := ⟨Try.call8⟩
instance en9 : Ent Try.prog 9 := ⟨Try.call9⟩
instance en10 : Ent Try.prog 10 := ⟨Try.call10⟩
instance en11 : Ent Try.prog 11 := ⟨Try.call11⟩
instance en12 : Ent Try.prog 12 := ⟨Try.call12⟩
instance en13 : Ent Try.prog 13 := ⟨Try.call13⟩
instance en14 : Ent Try.prog 14 := ⟨Try.call14⟩
instance en15 : Ent Try.prog 15 := ⟨Try.call15⟩
instance en16 : Ent Try.prog 16 := ⟨Try.call16⟩
instance en17 : Ent Try.prog 17 := ⟨Try.call17⟩
instance en18 : Ent Try.prog 18 := ⟨Try.call18⟩
instance en19 : Ent Try.prog 19 := ⟨Try.call19⟩
instance en20 : Ent Try.prog 20 := ⟨Try.call20⟩
instance en21 : Ent Try.prog 21 := ⟨Try.call21⟩
instance en22 : Ent Try.prog 22 := ⟨Try.call22⟩
instance en23 : Ent Try.prog 23 := ⟨Try.call23⟩
instance en24 : Ent Try.prog 24 := ⟨Try.call24⟩
instance en25 : Ent Try.prog 25 := ⟨Try.call25⟩
instance en26 : Ent Try.prog 26 := ⟨Try.call26⟩
instance en27 : Ent Try.prog 27 := ⟨Try.call27⟩
instance en28 : Ent Try.prog 28 := ⟨Try.call28⟩
instance en29 : Ent Try.prog 29 := ⟨Try.call29⟩
instance en30 : Ent Try.prog 30 := ⟨Try.call30⟩
instance en31 : Ent Try.prog 31 := ⟨Try.call31⟩
instance en32 : Ent Try.prog 32 := ⟨Try.call32⟩
instance en33 : Ent Try.prog 33 := ⟨Try.call33⟩
instance en34 : Ent Try.prog 34 := ⟨Try.call34⟩
instance en35 : Ent Try.prog 35 := ⟨Try.call35⟩
instance en36 : Ent Try.prog 36 := ⟨Try.call36⟩
instance en37 : Ent Try.prog 37 := ⟨Try.call37⟩
instance en38 : Ent Try.prog 38 := ⟨Try.call38⟩
instance en39 : Ent Try.prog 39 := ⟨Try.call39⟩
instance en40 : Ent Try.prog 40 := ⟨Try.call40⟩
instance en41 : Ent Try.prog 41 := ⟨Try.call41⟩
instance en42 : Ent Try.prog 42 := ⟨Try.call42⟩
instance en43 : Ent Try.prog 43 := ⟨Try.call43⟩
instance en44 : Ent Try.prog 44 := ⟨Try.call44⟩
instance en45 : Ent Try.prog 45 := ⟨Try.call45⟩
instance en46 : Ent Try.prog 46 := ⟨Try.call46⟩
instance en47 : Ent Try.prog 47 := ⟨Try.call47⟩
instance en48 : Ent Try.prog 48 := ⟨Try.call48⟩
instance en49 : Ent Try.prog 49 := ⟨Try.call49⟩
instance en50 : Ent Try.prog 50 := ⟨Try.call50⟩
instance en51 : Ent Try.prog 51 := ⟨Try.call51⟩
instance en52 : Ent Try.prog 52 := ⟨Try.call52⟩
instance en53 : Ent Try.prog 53 := ⟨Try.call53⟩
instance en54 : Ent Try.prog 54 := ⟨Try.call54⟩
instance en55 : Ent Try.prog 55 := ⟨Try.call55⟩
instance en56 : Ent Try.prog 56 := ⟨Try.call56⟩
instance en57 : Ent Try.prog 57 := ⟨Try.call57⟩
instance en58 : Ent Try.prog 58 := ⟨Try.call58⟩
instance en59 : Ent Try.prog 59 := ⟨Try.call59⟩
instance en60 : Ent Try.prog 60 := ⟨Try.call60⟩
instance en61 : Ent Try.prog 61 := ⟨Try.call61⟩
instance en62 : Ent Try.prog 62 := ⟨Try.call62⟩
instance en63 : Ent Try.prog 63 := ⟨Try.call63⟩
instance en64 : Ent Try.prog 64 := ⟨Try.call64⟩
instance en65 : Ent Try.prog 65 := ⟨Try.call65⟩
instance en66 : Ent Try.prog 66 := ⟨Try.call66⟩
instance en67 : Ent Try.prog 67 := ⟨Try.call67⟩
instance en68 : Ent Try.prog 68 := ⟨Try.call68⟩
instance en69 : Ent Try.prog 69 := ⟨Try.call69⟩
instance en70 : Ent Try.prog 70 := ⟨Try.call70⟩
instance en71 : Ent Try.prog 71 := ⟨Try.call71⟩
instance en72 : Ent Try.prog 72 := ⟨Try.call72⟩
instance en73 : Ent Try.prog 73 := ⟨Try.call73⟩
instance en74 : Ent Try.prog 74 := ⟨Try.call74⟩
instance en75 : Ent Try.prog 75 := ⟨Try.call75⟩
instance en76 : Ent Try.prog 76 := ⟨Try.call76⟩
instance en77 : Ent Try.prog 77 := ⟨Try.call77⟩
instance en78 : Ent Try.prog 78 := ⟨Try.call78⟩
instance en79 : Ent Try.prog 79 := ⟨Try.call79⟩
instance en80 : Ent Try.prog 80 := ⟨Try.call80⟩
instance en81 : Ent Try.prog 81 := ⟨Try.call81⟩
instance en82 : Ent Try.prog 82 := ⟨Try.call82⟩
instance en83 : Ent Try.prog 83 := ⟨Try.call83⟩
instance en84 : Ent Try.prog 84 := ⟨Try.call84⟩
instance en85 : Ent Try.prog 85 := ⟨Try.call85⟩
instance en86 : Ent Try.prog 86 := ⟨Try.call86⟩
instance en87 : Ent Try.prog 87 := ⟨Try.call87⟩
instance en88 : Ent Try.prog 88 := ⟨Try.call88⟩
instance en89 : Ent Try.prog 89 := ⟨Try.call89⟩
instance en90 : Ent Try.prog 90 := ⟨Try.call90⟩
instance en91 : Ent Try.prog 91 := ⟨Try.call91⟩
instance en92 : Ent Try.prog 92 := ⟨Try.call92⟩
instance en93 : Ent Try.prog 93 := ⟨Try.call93⟩
instance en94 : Ent Try.prog 94 := ⟨Try.call94⟩
instance en95 : Ent Try.prog 95 := ⟨Try.call95⟩
instance en96 : Ent Try.prog 96 := ⟨Try.call96⟩
instance en97 : Ent Try.prog 97 := ⟨Try.call97⟩
instance en98 : Ent Try.prog 98 := ⟨Try.call98⟩
instance en99 : Ent Try.prog 99 := ⟨Try.call99⟩
instance en100 : Ent Try.prog 100 := ⟨Try.call100⟩
instance en101 : Ent Try.prog 101 := ⟨Try.call101⟩
instance en102 : Ent Try.prog 102 := ⟨Try.call102⟩
instance en103 : Ent Try.prog 103 := ⟨Try.call103⟩
instance en104 : Ent Try.prog 104 := ⟨Try.call104⟩
instance en105 : Ent Try.prog 105 := ⟨Try.call105⟩
instance en106 : Ent Try.prog 106 := ⟨Try.call106⟩
instance en107 : Ent Try.prog 107 := ⟨Try.call107⟩
instance en108 : Ent Try.prog 108 := ⟨Try.call108⟩
instance en109 : Ent Try.prog 109 := ⟨Try.call109⟩
instance en110 : Ent Try.prog 110 := ⟨Try.call110⟩
end Go.Proofs.Ytobablbklkpchaa
