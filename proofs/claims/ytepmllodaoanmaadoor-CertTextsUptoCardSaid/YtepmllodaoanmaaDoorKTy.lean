import Derived.Test.YtepmllodaoanmaaDoorProg
import Derived.Test.YtepmllodaoanmaaDoorAx1
import Derived.KernelRfl
set_option linter.unusedVariables false
set_option maxRecDepth 100000
namespace Go.Proofs.YtepmllodaoanmaaDoor
open Go Go.AX
instance ty0 : Ty Tryd.prog 0 (TypeDesc.tuple #[]) 1 0 (Value.tuple #[]) := ⟨Tryd.underlying0, Tryd.t0, rfl, rfl, rfl, rfl⟩
instance ty1 : Ty Tryd.prog 1 (TypeDesc.func #[] #[] false) 1 8 Value.nilFunc := ⟨Tryd.underlying1, Tryd.t1, rfl, rfl, rfl, rfl⟩
instance ty2 : Ty Tryd.prog 2 (TypeDesc.int IntKind.i64) 1 8 (Value.int IntKind.i64 0) := ⟨Tryd.underlying2, Tryd.t2, rfl, rfl, rfl, rfl⟩
instance ty3 : Ty Tryd.prog 3 (TypeDesc.int IntKind.i64) 1 8 (Value.int IntKind.i64 0) := ⟨Tryd.underlying3, Tryd.t3, rfl, rfl, rfl, rfl⟩
instance ty4 : Ty Tryd.prog 4 TypeDesc.bool 1 1 (Value.bool false) := ⟨Tryd.underlying4, Tryd.t4, rfl, rfl, rfl, rfl⟩
instance ty5 : Ty Tryd.prog 5 (TypeDesc.int IntKind.u8) 1 1 (Value.int IntKind.u8 0) := ⟨Tryd.underlying5, Tryd.t5, rfl, rfl, rfl, rfl⟩
instance ty6 : Ty Tryd.prog 6 (TypeDesc.int IntKind.u8) 1 1 (Value.int IntKind.u8 0) := ⟨Tryd.underlying6, Tryd.t6, rfl, rfl, rfl, rfl⟩
instance ty7 : Ty Tryd.prog 7 (TypeDesc.struct
      #[{ name := "x", type := 2, offset := 0, embedded := false, tag := "", pkgPath := "runtime", byteOffset := 0 },
        { name := "y", type := 3, offset := 1, embedded := false, tag := "", pkgPath := "runtime", byteOffset := 8 },
        { name := "signed", type := 4, offset := 2, embedded := false, tag := "", pkgPath := "runtime",
          byteOffset := 16 },
        { name := "code", type := 6, offset := 3, embedded := false, tag := "", pkgPath := "runtime",
          byteOffset := 17 }]) 4 24 (Value.agg #[Value.int IntKind.i64 0, Value.int IntKind.i64 0, Value.bool false, Value.int IntKind.u8 0]) := ⟨Tryd.underlying7, Tryd.t7, rfl, rfl, rfl, rfl⟩
instance ty8 : Ty Tryd.prog 8 (TypeDesc.struct
      #[{ name := "x", type := 2, offset := 0, embedded := false, tag := "", pkgPath := "runtime", byteOffset := 0 },
        { name := "y", type := 3, offset := 1, embedded := false, tag := "", pkgPath := "runtime", byteOffset := 8 },
        { name := "signed", type := 4, offset := 2, embedded := false, tag := "", pkgPath := "runtime",
          byteOffset := 16 },
        { name := "code", type := 6, offset := 3, embedded := false, tag := "", pkgPath := "runtime",
          byteOffset := 17 }]) 4 24 (Value.agg #[Value.int IntKind.i64 0, Value.int IntKind.i64 0, Value.bool false, Value.int IntKind.u8 0]) := ⟨Tryd.underlying8, Tryd.t8, rfl, rfl, rfl, rfl⟩
instance ty9 : Ty Tryd.prog 9 TypeDesc.string 1 16 (Value.string { data := #[] }) := ⟨Tryd.underlying9, Tryd.t9, rfl, rfl, rfl, rfl⟩
instance ty10 : Ty Tryd.prog 10 TypeDesc.string 1 16 (Value.string { data := #[] }) := ⟨Tryd.underlying10, Tryd.t10, rfl, rfl, rfl, rfl⟩
instance ty11 : Ty Tryd.prog 11 TypeDesc.string 1 16 (Value.string { data := #[] }) := ⟨Tryd.underlying11, Tryd.t11, rfl, rfl, rfl, rfl⟩
instance ty12 : Ty Tryd.prog 12 (TypeDesc.int IntKind.u64) 1 8 (Value.int IntKind.u64 0) := ⟨Tryd.underlying12, Tryd.t12, rfl, rfl, rfl, rfl⟩
instance ty13 : Ty Tryd.prog 13 (TypeDesc.struct
      #[{ name := "msg", type := 9, offset := 0, embedded := false, tag := "", pkgPath := "runtime", byteOffset := 0 },
        { name := "addr", type := 12, offset := 1, embedded := false, tag := "", pkgPath := "runtime",
          byteOffset := 16 }]) 2 24 (Value.agg #[Value.string { data := #[] }, Value.int IntKind.u64 0]) := ⟨Tryd.underlying13, Tryd.t13, rfl, rfl, rfl, rfl⟩
instance ty14 : Ty Tryd.prog 14 (TypeDesc.struct
      #[{ name := "msg", type := 9, offset := 0, embedded := false, tag := "", pkgPath := "runtime", byteOffset := 0 },
        { name := "addr", type := 12, offset := 1, embedded := false, tag := "", pkgPath := "runtime",
          byteOffset := 16 }]) 2 24 (Value.agg #[Value.string { data := #[] }, Value.int IntKind.u64 0]) := ⟨Tryd.underlying14, Tryd.t14, rfl, rfl, rfl, rfl⟩
instance ty15 : Ty Tryd.prog 15 (TypeDesc.pointer 167) 1 8 (Value.pointer none) := ⟨Tryd.underlying15, Tryd.t15, rfl, rfl, rfl, rfl⟩
instance ty16 : Ty Tryd.prog 16 (TypeDesc.pointer 170) 1 8 (Value.pointer none) := ⟨Tryd.underlying16, Tryd.t16, rfl, rfl, rfl, rfl⟩
instance ty17 : Ty Tryd.prog 17 (TypeDesc.pointer 178) 1 8 (Value.pointer none) := ⟨Tryd.underlying17, Tryd.t17, rfl, rfl, rfl, rfl⟩
instance ty18 : Ty Tryd.prog 18 (TypeDesc.struct
      #[{ name := "typ", type := 17, offset := 0, embedded := false, tag := "", pkgPath := "internal/runtime/maps",
          byteOffset := 0 }]) 1 8 (Value.agg #[Value.pointer none]) := ⟨Tryd.underlying18, Tryd.t18, rfl, rfl, rfl, rfl⟩
instance ty19 : Ty Tryd.prog 19 (TypeDesc.struct
      #[{ name := "typ", type := 17, offset := 0, embedded := false, tag := "", pkgPath := "internal/runtime/maps",
          byteOffset := 0 }]) 1 8 (Value.agg #[Value.pointer none]) := ⟨Tryd.underlying19, Tryd.t19, rfl, rfl, rfl, rfl⟩
instance ty20 : Ty Tryd.prog 20 (TypeDesc.interface #[]) 1 16 Value.nilIface := ⟨Tryd.underlying20, Tryd.t20, rfl, rfl, rfl, rfl⟩
instance ty21 : Ty Tryd.prog 21 (TypeDesc.int IntKind.i32) 1 4 (Value.int IntKind.i32 0) := ⟨Tryd.underlying21, Tryd.t21, rfl, rfl, rfl, rfl⟩
instance ty22 : Ty Tryd.prog 22 (TypeDesc.slice 24) 1 24 (Value.slice none 0 0) := ⟨Tryd.underlying22, Tryd.t22, rfl, rfl, rfl, rfl⟩
instance ty23 : Ty Tryd.prog 23 (TypeDesc.struct
      #[{ name := "Kind", type := 3, offset := 0, embedded := false, tag := "", pkgPath := "", byteOffset := 0 },
        { name := "Name", type := 9, offset := 1, embedded := false, tag := "", pkgPath := "", byteOffset := 8 },
        { name := "Lo", type := 3, offset := 2, embedded := false, tag := "", pkgPath := "", byteOffset := 24 },
        { name := "Hi", type := 3, offset := 3, embedded := false, tag := "", pkgPath := "", byteOffset := 32 },
        { name := "Opt", type := 4, offset := 4, embedded := false, tag := "", pkgPath := "", byteOffset := 40 },
        { name := "L", type := 22, offset := 5, embedded := false, tag := "", pkgPath := "", byteOffset := 48 }]) 6 72 (Value.agg
        #[Value.int IntKind.i64 0, Value.string { data := #[] }, Value.int IntKind.i64 0, Value.int IntKind.i64 0,
          Value.bool false, Value.slice none 0 0]) := ⟨Tryd.underlying23, Tryd.t23, rfl, rfl, rfl, rfl⟩
instance ty24 : Ty Tryd.prog 24 (TypeDesc.struct
      #[{ name := "Kind", type := 3, offset := 0, embedded := false, tag := "", pkgPath := "", byteOffset := 0 },
        { name := "Name", type := 9, offset := 1, embedded := false, tag := "", pkgPath := "", byteOffset := 8 },
        { name := "Lo", type := 3, offset := 2, embedded := false, tag := "", pkgPath := "", byteOffset := 24 },
        { name := "Hi", type := 3, offset := 3, embedded := false, tag := "", pkgPath := "", byteOffset := 32 },
        { name := "Opt", type := 4, offset := 4, embedded := false, tag := "", pkgPath := "", byteOffset := 40 },
        { name := "L", type := 22, offset := 5, embedded := false, tag := "", pkgPath := "", byteOffset := 48 }]) 6 72 (Value.agg
        #[Value.int IntKind.i64 0, Value.string { data := #[] }, Value.int IntKind.i64 0, Value.int IntKind.i64 0,
          Value.bool false, Value.slice none 0 0]) := ⟨Tryd.underlying24, Tryd.t24, rfl, rfl, rfl, rfl⟩
instance ty25 : Ty Tryd.prog 25 (TypeDesc.slice 5) 1 24 (Value.slice none 0 0) := ⟨Tryd.underlying25, Tryd.t25, rfl, rfl, rfl, rfl⟩
instance ty26 : Ty Tryd.prog 26 (TypeDesc.slice 28) 1 24 (Value.slice none 0 0) := ⟨Tryd.underlying26, Tryd.t26, rfl, rfl, rfl, rfl⟩
instance ty27 : Ty Tryd.prog 27 (TypeDesc.struct
      #[{ name := "Kind", type := 3, offset := 0, embedded := false, tag := "", pkgPath := "", byteOffset := 0 },
        { name := "N", type := 3, offset := 1, embedded := false, tag := "", pkgPath := "", byteOffset := 8 },
        { name := "B", type := 25, offset := 2, embedded := false, tag := "", pkgPath := "", byteOffset := 16 },
        { name := "Set", type := 4, offset := 3, embedded := false, tag := "", pkgPath := "", byteOffset := 40 },
        { name := "L", type := 26, offset := 4, embedded := false, tag := "", pkgPath := "", byteOffset := 48 }]) 5 72 (Value.agg
        #[Value.int IntKind.i64 0, Value.int IntKind.i64 0, Value.slice none 0 0, Value.bool false,
          Value.slice none 0 0]) := ⟨Tryd.underlying27, Tryd.t27, rfl, rfl, rfl, rfl⟩
instance ty28 : Ty Tryd.prog 28 (TypeDesc.struct
      #[{ name := "Kind", type := 3, offset := 0, embedded := false, tag := "", pkgPath := "", byteOffset := 0 },
        { name := "N", type := 3, offset := 1, embedded := false, tag := "", pkgPath := "", byteOffset := 8 },
        { name := "B", type := 25, offset := 2, embedded := false, tag := "", pkgPath := "", byteOffset := 16 },
        { name := "Set", type := 4, offset := 3, embedded := false, tag := "", pkgPath := "", byteOffset := 40 },
        { name := "L", type := 26, offset := 4, embedded := false, tag := "", pkgPath := "", byteOffset := 48 }]) 5 72 (Value.agg
        #[Value.int IntKind.i64 0, Value.int IntKind.i64 0, Value.slice none 0 0, Value.bool false,
          Value.slice none 0 0]) := ⟨Tryd.underlying28, Tryd.t28, rfl, rfl, rfl, rfl⟩
instance ty29 : Ty Tryd.prog 29 (TypeDesc.func #[24] #[4] false) 1 8 Value.nilFunc := ⟨Tryd.underlying29, Tryd.t29, rfl, rfl, rfl, rfl⟩
instance ty30 : Ty Tryd.prog 30 (TypeDesc.func #[28] #[4] false) 1 8 Value.nilFunc := ⟨Tryd.underlying30, Tryd.t30, rfl, rfl, rfl, rfl⟩
instance ty31 : Ty Tryd.prog 31 (TypeDesc.func #[] #[4] false) 1 8 Value.nilFunc := ⟨Tryd.underlying31, Tryd.t31, rfl, rfl, rfl, rfl⟩
instance ty32 : Ty Tryd.prog 32 (TypeDesc.int IntKind.i64) 1 8 (Value.int IntKind.i64 0) := ⟨Tryd.underlying32, Tryd.t32, rfl, rfl, rfl, rfl⟩
instance ty33 : Ty Tryd.prog 33 (TypeDesc.tuple #[9, 32]) 1 0 (Value.tuple #[Value.string { data := #[] }, Value.int IntKind.i64 0]) := ⟨Tryd.underlying33, Tryd.t33, rfl, rfl, rfl, rfl⟩
instance ty34 : Ty Tryd.prog 34 (TypeDesc.func #[24] #[9, 32] false) 1 8 Value.nilFunc := ⟨Tryd.underlying34, Tryd.t34, rfl, rfl, rfl, rfl⟩
instance ty35 : Ty Tryd.prog 35 (TypeDesc.func #[24, 28] #[9, 32] false) 1 8 Value.nilFunc := ⟨Tryd.underlying35, Tryd.t35, rfl, rfl, rfl, rfl⟩
instance ty36 : Ty Tryd.prog 36 (TypeDesc.func #[24, 28] #[4] false) 1 8 Value.nilFunc := ⟨Tryd.underlying36, Tryd.t36, rfl, rfl, rfl, rfl⟩
instance ty37 : Ty Tryd.prog 37 (TypeDesc.tuple #[28, 32]) 1 0 (Value.tuple
        #[Value.agg
            #[Value.int IntKind.i64 0, Value.int IntKind.i64 0, Value.slice none 0 0, Value.bool false,
              Value.slice none 0 0],
          Value.int IntKind.i64 0]) := ⟨Tryd.underlying37, Tryd.t37, rfl, rfl, rfl, rfl⟩
instance ty38 : Ty Tryd.prog 38 (TypeDesc.func #[24, 25] #[28, 32] false) 1 8 Value.nilFunc := ⟨Tryd.underlying38, Tryd.t38, rfl, rfl, rfl, rfl⟩
instance ty39 : Ty Tryd.prog 39 (TypeDesc.func #[28, 28] #[4] false) 1 8 Value.nilFunc := ⟨Tryd.underlying39, Tryd.t39, rfl, rfl, rfl, rfl⟩
instance ty40 : Ty Tryd.prog 40 (TypeDesc.func #[24, 25] #[4] false) 1 8 Value.nilFunc := ⟨Tryd.underlying40, Tryd.t40, rfl, rfl, rfl, rfl⟩
instance ty41 : Ty Tryd.prog 41 (TypeDesc.tuple #[25, 32]) 1 0 (Value.tuple #[Value.slice none 0 0, Value.int IntKind.i64 0]) := ⟨Tryd.underlying41, Tryd.t41, rfl, rfl, rfl, rfl⟩
instance ty42 : Ty Tryd.prog 42 (TypeDesc.func #[24, 28] #[25, 32] false) 1 8 Value.nilFunc := ⟨Tryd.underlying42, Tryd.t42, rfl, rfl, rfl, rfl⟩
instance ty43 : Ty Tryd.prog 43 (TypeDesc.func #[24, 28, 25] #[4] false) 1 8 Value.nilFunc := ⟨Tryd.underlying43, Tryd.t43, rfl, rfl, rfl, rfl⟩
instance ty44 : Ty Tryd.prog 44 (TypeDesc.func #[22] #[3] false) 1 8 Value.nilFunc := ⟨Tryd.underlying44, Tryd.t44, rfl, rfl, rfl, rfl⟩
instance ty45 : Ty Tryd.prog 45 (TypeDesc.func #[26] #[3] false) 1 8 Value.nilFunc := ⟨Tryd.underlying45, Tryd.t45, rfl, rfl, rfl, rfl⟩
instance ty46 : Ty Tryd.prog 46 (TypeDesc.func #[24] #[32] false) 1 8 Value.nilFunc := ⟨Tryd.underlying46, Tryd.t46, rfl, rfl, rfl, rfl⟩
instance ty47 : Ty Tryd.prog 47 (TypeDesc.func #[24] #[9] false) 1 8 Value.nilFunc := ⟨Tryd.underlying47, Tryd.t47, rfl, rfl, rfl, rfl⟩
instance ty48 : Ty Tryd.prog 48 (TypeDesc.func #[24, 28] #[9] false) 1 8 Value.nilFunc := ⟨Tryd.underlying48, Tryd.t48, rfl, rfl, rfl, rfl⟩
instance ty49 : Ty Tryd.prog 49 (TypeDesc.tuple #[28, 4]) 1 0 (Value.tuple
        #[Value.agg
            #[Value.int IntKind.i64 0, Value.int IntKind.i64 0, Value.slice none 0 0, Value.bool false,
              Value.slice none 0 0],
          Value.bool false]) := ⟨Tryd.underlying49, Tryd.t49, rfl, rfl, rfl, rfl⟩
instance ty50 : Ty Tryd.prog 50 (TypeDesc.func #[24, 51] #[28, 4] false) 1 8 Value.nilFunc := ⟨Tryd.underlying50, Tryd.t50, rfl, rfl, rfl, rfl⟩
instance ty51 : Ty Tryd.prog 51 (TypeDesc.pointer 25) 1 8 (Value.pointer none) := ⟨Tryd.underlying51, Tryd.t51, rfl, rfl, rfl, rfl⟩
instance ty52 : Ty Tryd.prog 52 (TypeDesc.func #[25, 25] #[4] false) 1 8 Value.nilFunc := ⟨Tryd.underlying52, Tryd.t52, rfl, rfl, rfl, rfl⟩
instance ty53 : Ty Tryd.prog 53 (TypeDesc.pointer 55) 1 8 (Value.pointer none) := ⟨Tryd.underlying53, Tryd.t53, rfl, rfl, rfl, rfl⟩
instance ty54 : Ty Tryd.prog 54 (TypeDesc.struct
      #[{ name := "ok", type := 4, offset := 0, embedded := false, tag := "", pkgPath := "wireglass/wireglassref22",
          byteOffset := 0 }]) 1 1 (Value.agg #[Value.bool false]) := ⟨Tryd.underlying54, Tryd.t54, rfl, rfl, rfl, rfl⟩
instance ty55 : Ty Tryd.prog 55 (TypeDesc.struct
      #[{ name := "ok", type := 4, offset := 0, embedded := false, tag := "", pkgPath := "wireglass/wireglassref22",
          byteOffset := 0 }]) 1 1 (Value.agg #[Value.bool false]) := ⟨Tryd.underlying55, Tryd.t55, rfl, rfl, rfl, rfl⟩
instance ty56 : Ty Tryd.prog 56 (TypeDesc.func #[24, 25] #[28] false) 1 8 Value.nilFunc := ⟨Tryd.underlying56, Tryd.t56, rfl, rfl, rfl, rfl⟩
instance ty57 : Ty Tryd.prog 57 (TypeDesc.pointer 60) 1 8 (Value.pointer none) := ⟨Tryd.underlying57, Tryd.t57, rfl, rfl, rfl, rfl⟩
instance ty58 : Ty Tryd.prog 58 (TypeDesc.int IntKind.i64) 1 8 (Value.int IntKind.i64 0) := ⟨Tryd.underlying58, Tryd.t58, rfl, rfl, rfl, rfl⟩
instance ty59 : Ty Tryd.prog 59 (TypeDesc.struct
      #[{ name := "b", type := 25, offset := 0, embedded := false, tag := "", pkgPath := "wireglass/cert",
          byteOffset := 0 },
        { name := "at", type := 3, offset := 1, embedded := false, tag := "", pkgPath := "wireglass/cert",
          byteOffset := 24 },
        { name := "left", type := 58, offset := 2, embedded := false, tag := "", pkgPath := "wireglass/cert",
          byteOffset := 32 },
        { name := "wrong", type := 4, offset := 3, embedded := false, tag := "", pkgPath := "wireglass/cert",
          byteOffset := 40 },
        { name := "full", type := 4, offset := 4, embedded := false, tag := "", pkgPath := "wireglass/cert",
          byteOffset := 41 }]) 5 48 (Value.agg
        #[Value.slice none 0 0, Value.int IntKind.i64 0, Value.int IntKind.i64 0, Value.bool false, Value.bool false]) := ⟨Tryd.underlying59, Tryd.t59, rfl, rfl, rfl, rfl⟩
instance ty60 : Ty Tryd.prog 60 (TypeDesc.struct
      #[{ name := "b", type := 25, offset := 0, embedded := false, tag := "", pkgPath := "wireglass/cert",
          byteOffset := 0 },
        { name := "at", type := 3, offset := 1, embedded := false, tag := "", pkgPath := "wireglass/cert",
          byteOffset := 24 },
        { name := "left", type := 58, offset := 2, embedded := false, tag := "", pkgPath := "wireglass/cert",
          byteOffset := 32 },
        { name := "wrong", type := 4, offset := 3, embedded := false, tag := "", pkgPath := "wireglass/cert",
          byteOffset := 40 },
        { name := "full", type := 4, offset := 4, embedded := false, tag := "", pkgPath := "wireglass/cert",
          byteOffset := 41 }]) 5 48 (Value.agg
        #[Value.slice none 0 0, Value.int IntKind.i64 0, Value.int IntKind.i64 0, Value.bool false, Value.bool false]) := ⟨Tryd.underlying60, Tryd.t60, rfl, rfl, rfl, rfl⟩
instance ty61 : Ty Tryd.prog 61 (TypeDesc.func #[24] #[28] false) 1 8 Value.nilFunc := ⟨Tryd.underlying61, Tryd.t61, rfl, rfl, rfl, rfl⟩
instance ty62 : Ty Tryd.prog 62 (TypeDesc.pointer 64) 1 8 (Value.pointer none) := ⟨Tryd.underlying62, Tryd.t62, rfl, rfl, rfl, rfl⟩
instance ty63 : Ty Tryd.prog 63 (TypeDesc.struct
      #[{ name := "b", type := 25, offset := 0, embedded := false, tag := "", pkgPath := "wireglass/wireglassref22",
          byteOffset := 0 },
        { name := "at", type := 3, offset := 1, embedded := false, tag := "", pkgPath := "wireglass/wireglassref22",
          byteOffset := 24 },
        { name := "ok", type := 4, offset := 2, embedded := false, tag := "", pkgPath := "wireglass/wireglassref22",
          byteOffset := 32 },
        { name := "n", type := 3, offset := 3, embedded := false, tag := "", pkgPath := "wireglass/wireglassref22",
          byteOffset := 40 },
        { name := "large", type := 4, offset := 4, embedded := false, tag := "", pkgPath := "wireglass/wireglassref22",
          byteOffset := 48 }]) 5 56 (Value.agg
        #[Value.slice none 0 0, Value.int IntKind.i64 0, Value.bool false, Value.int IntKind.i64 0, Value.bool false]) := ⟨Tryd.underlying63, Tryd.t63, rfl, rfl, rfl, rfl⟩
instance ty64 : Ty Tryd.prog 64 (TypeDesc.struct
      #[{ name := "b", type := 25, offset := 0, embedded := false, tag := "", pkgPath := "wireglass/wireglassref22",
          byteOffset := 0 },
        { name := "at", type := 3, offset := 1, embedded := false, tag := "", pkgPath := "wireglass/wireglassref22",
          byteOffset := 24 },
        { name := "ok", type := 4, offset := 2, embedded := false, tag := "", pkgPath := "wireglass/wireglassref22",
          byteOffset := 32 },
        { name := "n", type := 3, offset := 3, embedded := false, tag := "", pkgPath := "wireglass/wireglassref22",
          byteOffset := 40 },
        { name := "large", type := 4, offset := 4, embedded := false, tag := "", pkgPath := "wireglass/wireglassref22",
          byteOffset := 48 }]) 5 56 (Value.agg
        #[Value.slice none 0 0, Value.int IntKind.i64 0, Value.bool false, Value.int IntKind.i64 0, Value.bool false]) := ⟨Tryd.underlying64, Tryd.t64, rfl, rfl, rfl, rfl⟩
instance ty65 : Ty Tryd.prog 65 (TypeDesc.func #[3] #[3] false) 1 8 Value.nilFunc := ⟨Tryd.underlying65, Tryd.t65, rfl, rfl, rfl, rfl⟩
instance ty66 : Ty Tryd.prog 66 (TypeDesc.func #[24, 28] #[32] false) 1 8 Value.nilFunc := ⟨Tryd.underlying66, Tryd.t66, rfl, rfl, rfl, rfl⟩
instance ty67 : Ty Tryd.prog 67 (TypeDesc.pointer 69) 1 8 (Value.pointer none) := ⟨Tryd.underlying67, Tryd.t67, rfl, rfl, rfl, rfl⟩
instance ty68 : Ty Tryd.prog 68 (TypeDesc.struct
      #[{ name := "full", type := 4, offset := 0, embedded := false, tag := "", pkgPath := "wireglass/cert",
          byteOffset := 0 }]) 1 1 (Value.agg #[Value.bool false]) := ⟨Tryd.underlying68, Tryd.t68, rfl, rfl, rfl, rfl⟩
instance ty69 : Ty Tryd.prog 69 (TypeDesc.struct
      #[{ name := "full", type := 4, offset := 0, embedded := false, tag := "", pkgPath := "wireglass/cert",
          byteOffset := 0 }]) 1 1 (Value.agg #[Value.bool false]) := ⟨Tryd.underlying69, Tryd.t69, rfl, rfl, rfl, rfl⟩
instance ty70 : Ty Tryd.prog 70 (TypeDesc.func #[24, 28] #[25] false) 1 8 Value.nilFunc := ⟨Tryd.underlying70, Tryd.t70, rfl, rfl, rfl, rfl⟩
instance ty71 : Ty Tryd.prog 71 (TypeDesc.func #[28] #[3] false) 1 8 Value.nilFunc := ⟨Tryd.underlying71, Tryd.t71, rfl, rfl, rfl, rfl⟩
instance ty72 : Ty Tryd.prog 72 (TypeDesc.pointer 74) 1 8 (Value.pointer none) := ⟨Tryd.underlying72, Tryd.t72, rfl, rfl, rfl, rfl⟩
instance ty73 : Ty Tryd.prog 73 (TypeDesc.struct
      #[{ name := "b", type := 25, offset := 0, embedded := false, tag := "", pkgPath := "wireglass/cert",
          byteOffset := 0 },
        { name := "at", type := 3, offset := 1, embedded := false, tag := "", pkgPath := "wireglass/cert",
          byteOffset := 24 },
        { name := "full", type := 4, offset := 2, embedded := false, tag := "", pkgPath := "wireglass/cert",
          byteOffset := 32 }]) 3 40 (Value.agg #[Value.slice none 0 0, Value.int IntKind.i64 0, Value.bool false]) := ⟨Tryd.underlying73, Tryd.t73, rfl, rfl, rfl, rfl⟩
instance ty74 : Ty Tryd.prog 74 (TypeDesc.struct
      #[{ name := "b", type := 25, offset := 0, embedded := false, tag := "", pkgPath := "wireglass/cert",
          byteOffset := 0 },
        { name := "at", type := 3, offset := 1, embedded := false, tag := "", pkgPath := "wireglass/cert",
          byteOffset := 24 },
        { name := "full", type := 4, offset := 2, embedded := false, tag := "", pkgPath := "wireglass/cert",
          byteOffset := 32 }]) 3 40 (Value.agg #[Value.slice none 0 0, Value.int IntKind.i64 0, Value.bool false]) := ⟨Tryd.underlying74, Tryd.t74, rfl, rfl, rfl, rfl⟩
instance ty75 : Ty Tryd.prog 75 (TypeDesc.func #[24, 28] #[] false) 1 8 Value.nilFunc := ⟨Tryd.underlying75, Tryd.t75, rfl, rfl, rfl, rfl⟩
instance ty76 : Ty Tryd.prog 76 (TypeDesc.tuple #[3, 3]) 1 0 (Value.tuple #[Value.int IntKind.i64 0, Value.int IntKind.i64 0]) := ⟨Tryd.underlying76, Tryd.t76, rfl, rfl, rfl, rfl⟩
instance ty77 : Ty Tryd.prog 77 (TypeDesc.func #[24] #[3, 3] false) 1 8 Value.nilFunc := ⟨Tryd.underlying77, Tryd.t77, rfl, rfl, rfl, rfl⟩
instance ty78 : Ty Tryd.prog 78 (TypeDesc.array 8 9) 8 128 (Value.agg
        #[Value.string { data := #[] }, Value.string { data := #[] }, Value.string { data := #[] },
          Value.string { data := #[] }, Value.string { data := #[] }, Value.string { data := #[] },
          Value.string { data := #[] }, Value.string { data := #[] }]) := ⟨Tryd.underlying78, Tryd.t78, rfl, rfl, rfl, rfl⟩
instance ty79 : Ty Tryd.prog 79 (TypeDesc.func #[] #[78] false) 1 8 Value.nilFunc := ⟨Tryd.underlying79, Tryd.t79, rfl, rfl, rfl, rfl⟩
instance ty80 : Ty Tryd.prog 80 (TypeDesc.func #[3] #[9] false) 1 8 Value.nilFunc := ⟨Tryd.underlying80, Tryd.t80, rfl, rfl, rfl, rfl⟩
instance ty81 : Ty Tryd.prog 81 (TypeDesc.slice 9) 1 24 (Value.slice none 0 0) := ⟨Tryd.underlying81, Tryd.t81, rfl, rfl, rfl, rfl⟩
instance ty82 : Ty Tryd.prog 82 (TypeDesc.func #[81, 9] #[9] false) 1 8 Value.nilFunc := ⟨Tryd.underlying82, Tryd.t82, rfl, rfl, rfl, rfl⟩
instance ty83 : Ty Tryd.prog 83 (TypeDesc.func #[24] #[3] false) 1 8 Value.nilFunc := ⟨Tryd.underlying83, Tryd.t83, rfl, rfl, rfl, rfl⟩
instance ty84 : Ty Tryd.prog 84 (TypeDesc.func #[4] #[9] false) 1 8 Value.nilFunc := ⟨Tryd.underlying84, Tryd.t84, rfl, rfl, rfl, rfl⟩
instance ty85 : Ty Tryd.prog 85 (TypeDesc.func #[25] #[9] false) 1 8 Value.nilFunc := ⟨Tryd.underlying85, Tryd.t85, rfl, rfl, rfl, rfl⟩
instance ty86 : Ty Tryd.prog 86 (TypeDesc.tuple #[25, 4]) 1 0 (Value.tuple #[Value.slice none 0 0, Value.bool false]) := ⟨Tryd.underlying86, Tryd.t86, rfl, rfl, rfl, rfl⟩
instance ty87 : Ty Tryd.prog 87 (TypeDesc.func #[51, 3] #[25, 4] false) 1 8 Value.nilFunc := ⟨Tryd.underlying87, Tryd.t87, rfl, rfl, rfl, rfl⟩
instance ty88 : Ty Tryd.prog 88 (TypeDesc.array 8 5) 8 8 (Value.agg
        #[Value.int IntKind.u8 0, Value.int IntKind.u8 0, Value.int IntKind.u8 0, Value.int IntKind.u8 0,
          Value.int IntKind.u8 0, Value.int IntKind.u8 0, Value.int IntKind.u8 0, Value.int IntKind.u8 0]) := ⟨Tryd.underlying88, Tryd.t88, rfl, rfl, rfl, rfl⟩
instance ty89 : Ty Tryd.prog 89 (TypeDesc.func #[] #[88] false) 1 8 Value.nilFunc := ⟨Tryd.underlying89, Tryd.t89, rfl, rfl, rfl, rfl⟩
instance ty90 : Ty Tryd.prog 90 (TypeDesc.func #[24, 25] #[28, 4] false) 1 8 Value.nilFunc := ⟨Tryd.underlying90, Tryd.t90, rfl, rfl, rfl, rfl⟩
instance ty91 : Ty Tryd.prog 91 (TypeDesc.tuple #[3, 3, 3, 4]) 1 0 (Value.tuple #[Value.int IntKind.i64 0, Value.int IntKind.i64 0, Value.int IntKind.i64 0, Value.bool false]) := ⟨Tryd.underlying91, Tryd.t91, rfl, rfl, rfl, rfl⟩
instance ty92 : Ty Tryd.prog 92 (TypeDesc.func #[25] #[3, 3, 3, 4] false) 1 8 Value.nilFunc := ⟨Tryd.underlying92, Tryd.t92, rfl, rfl, rfl, rfl⟩
instance ty93 : Ty Tryd.prog 93 (TypeDesc.tuple #[28, 25]) 1 0 (Value.tuple
        #[Value.agg
            #[Value.int IntKind.i64 0, Value.int IntKind.i64 0, Value.slice none 0 0, Value.bool false,
              Value.slice none 0 0],
          Value.slice none 0 0]) := ⟨Tryd.underlying93, Tryd.t93, rfl, rfl, rfl, rfl⟩
instance ty94 : Ty Tryd.prog 94 (TypeDesc.func #[24, 25] #[28, 25] false) 1 8 Value.nilFunc := ⟨Tryd.underlying94, Tryd.t94, rfl, rfl, rfl, rfl⟩
instance ty95 : Ty Tryd.prog 95 (TypeDesc.func #[24] #[26] false) 1 8 Value.nilFunc := ⟨Tryd.underlying95, Tryd.t95, rfl, rfl, rfl, rfl⟩
instance ty96 : Ty Tryd.prog 96 (TypeDesc.slice 4) 1 24 (Value.slice none 0 0) := ⟨Tryd.underlying96, Tryd.t96, rfl, rfl, rfl, rfl⟩
instance ty97 : Ty Tryd.prog 97 (TypeDesc.int IntKind.u64) 1 8 (Value.int IntKind.u64 0) := ⟨Tryd.underlying97, Tryd.t97, rfl, rfl, rfl, rfl⟩
instance ty98 : Ty Tryd.prog 98 (TypeDesc.func #[5, 25] #[25] false) 1 8 Value.nilFunc := ⟨Tryd.underlying98, Tryd.t98, rfl, rfl, rfl, rfl⟩
instance ty99 : Ty Tryd.prog 99 (TypeDesc.array 8 70) 8 64 (Value.agg
        #[Value.nilFunc, Value.nilFunc, Value.nilFunc, Value.nilFunc, Value.nilFunc, Value.nilFunc, Value.nilFunc,
          Value.nilFunc]) := ⟨Tryd.underlying99, Tryd.t99, rfl, rfl, rfl, rfl⟩
instance ty100 : Ty Tryd.prog 100 (TypeDesc.func #[] #[99] false) 1 8 Value.nilFunc := ⟨Tryd.underlying100, Tryd.t100, rfl, rfl, rfl, rfl⟩
instance ty101 : Ty Tryd.prog 101 (TypeDesc.func #[3, 3] #[] false) 1 8 Value.nilFunc := ⟨Tryd.underlying101, Tryd.t101, rfl, rfl, rfl, rfl⟩
instance ty102 : Ty Tryd.prog 102 (TypeDesc.pointer 104) 1 8 (Value.pointer none) := ⟨Tryd.underlying102, Tryd.t102, rfl, rfl, rfl, rfl⟩
instance ty103 : Ty Tryd.prog 103 (TypeDesc.struct
      #[{ name := "addr", type := 102, offset := 0, embedded := false, tag := "", pkgPath := "strings",
          byteOffset := 0 },
        { name := "buf", type := 25, offset := 1, embedded := false, tag := "", pkgPath := "strings",
          byteOffset := 8 }]) 2 32 (Value.agg #[Value.pointer none, Value.slice none 0 0]) := ⟨Tryd.underlying103, Tryd.t103, rfl, rfl, rfl, rfl⟩
instance ty104 : Ty Tryd.prog 104 (TypeDesc.struct
      #[{ name := "addr", type := 102, offset := 0, embedded := false, tag := "", pkgPath := "strings",
          byteOffset := 0 },
        { name := "buf", type := 25, offset := 1, embedded := false, tag := "", pkgPath := "strings",
          byteOffset := 8 }]) 2 32 (Value.agg #[Value.pointer none, Value.slice none 0 0]) := ⟨Tryd.underlying104, Tryd.t104, rfl, rfl, rfl, rfl⟩
instance ty105 : Ty Tryd.prog 105 (TypeDesc.func #[3] #[] false) 1 8 Value.nilFunc := ⟨Tryd.underlying105, Tryd.t105, rfl, rfl, rfl, rfl⟩
instance ty106 : Ty Tryd.prog 106 (TypeDesc.interface #[("Error", 110)]) 1 16 Value.nilIface := ⟨Tryd.underlying106, Tryd.t106, rfl, rfl, rfl, rfl⟩
instance ty107 : Ty Tryd.prog 107 (TypeDesc.interface #[("Error", 110)]) 1 16 Value.nilIface := ⟨Tryd.underlying107, Tryd.t107, rfl, rfl, rfl, rfl⟩
instance ty108 : Ty Tryd.prog 108 (TypeDesc.tuple #[3, 107]) 1 0 (Value.tuple #[Value.int IntKind.i64 0, Value.nilIface]) := ⟨Tryd.underlying108, Tryd.t108, rfl, rfl, rfl, rfl⟩
instance ty109 : Ty Tryd.prog 109 (TypeDesc.func #[9] #[3, 107] false) 1 8 Value.nilFunc := ⟨Tryd.underlying109, Tryd.t109, rfl, rfl, rfl, rfl⟩
instance ty110 : Ty Tryd.prog 110 (TypeDesc.func #[] #[9] false) 1 8 Value.nilFunc := ⟨Tryd.underlying110, Tryd.t110, rfl, rfl, rfl, rfl⟩
instance ty111 : Ty Tryd.prog 111 (TypeDesc.func #[24, 3] #[3] false) 1 8 Value.nilFunc := ⟨Tryd.underlying111, Tryd.t111, rfl, rfl, rfl, rfl⟩
instance ty112 : Ty Tryd.prog 112 (TypeDesc.func #[3] #[25] false) 1 8 Value.nilFunc := ⟨Tryd.underlying112, Tryd.t112, rfl, rfl, rfl, rfl⟩
instance ty113 : Ty Tryd.prog 113 (TypeDesc.func #[25, 9] #[25] false) 1 8 Value.nilFunc := ⟨Tryd.underlying113, Tryd.t113, rfl, rfl, rfl, rfl⟩
instance ty114 : Ty Tryd.prog 114 (TypeDesc.int IntKind.i8) 1 1 (Value.int IntKind.i8 0) := ⟨Tryd.underlying114, Tryd.t114, rfl, rfl, rfl, rfl⟩
instance ty115 : Ty Tryd.prog 115 (TypeDesc.func #[25] #[25] false) 1 8 Value.nilFunc := ⟨Tryd.underlying115, Tryd.t115, rfl, rfl, rfl, rfl⟩
instance ty116 : Ty Tryd.prog 116 (TypeDesc.tuple #[26, 4]) 1 0 (Value.tuple #[Value.slice none 0 0, Value.bool false]) := ⟨Tryd.underlying116, Tryd.t116, rfl, rfl, rfl, rfl⟩
instance ty117 : Ty Tryd.prog 117 (TypeDesc.func #[24, 25] #[26, 4] false) 1 8 Value.nilFunc := ⟨Tryd.underlying117, Tryd.t117, rfl, rfl, rfl, rfl⟩
instance ty118 : Ty Tryd.prog 118 (TypeDesc.func #[24, 3, 25] #[28] false) 1 8 Value.nilFunc := ⟨Tryd.underlying118, Tryd.t118, rfl, rfl, rfl, rfl⟩
instance ty119 : Ty Tryd.prog 119 (TypeDesc.pointer 58) 1 8 (Value.pointer none) := ⟨Tryd.underlying119, Tryd.t119, rfl, rfl, rfl, rfl⟩
instance ty120 : Ty Tryd.prog 120 (TypeDesc.tuple #[3, 32]) 1 0 (Value.tuple #[Value.int IntKind.i64 0, Value.int IntKind.i64 0]) := ⟨Tryd.underlying120, Tryd.t120, rfl, rfl, rfl, rfl⟩
instance ty121 : Ty Tryd.prog 121 (TypeDesc.func #[25, 3, 3, 4] #[3, 32] false) 1 8 Value.nilFunc := ⟨Tryd.underlying121, Tryd.t121, rfl, rfl, rfl, rfl⟩
instance ty122 : Ty Tryd.prog 122 (TypeDesc.func #[26, 30] #[4] false) 1 8 Value.nilFunc := ⟨Tryd.underlying122, Tryd.t122, rfl, rfl, rfl, rfl⟩
instance ty123 : Ty Tryd.prog 123 (TypeDesc.func #[25, 3, 3, 3, 4] #[25, 32] false) 1 8 Value.nilFunc := ⟨Tryd.underlying123, Tryd.t123, rfl, rfl, rfl, rfl⟩
instance ty124 : Ty Tryd.prog 124 (TypeDesc.func #[24, 3, 3] #[4] false) 1 8 Value.nilFunc := ⟨Tryd.underlying124, Tryd.t124, rfl, rfl, rfl, rfl⟩
instance ty125 : Ty Tryd.prog 125 (TypeDesc.func #[2, 3] #[9] false) 1 8 Value.nilFunc := ⟨Tryd.underlying125, Tryd.t125, rfl, rfl, rfl, rfl⟩
instance ty126 : Ty Tryd.prog 126 (TypeDesc.pointer 5) 1 8 (Value.pointer none) := ⟨Tryd.underlying126, Tryd.t126, rfl, rfl, rfl, rfl⟩
instance ty127 : Ty Tryd.prog 127 (TypeDesc.func #[9] #[4] false) 1 8 Value.nilFunc := ⟨Tryd.underlying127, Tryd.t127, rfl, rfl, rfl, rfl⟩
instance ty128 : Ty Tryd.prog 128 (TypeDesc.func #[25, 5] #[25] false) 1 8 Value.nilFunc := ⟨Tryd.underlying128, Tryd.t128, rfl, rfl, rfl, rfl⟩
instance ty129 : Ty Tryd.prog 129 (TypeDesc.array 256 4) 256 256 (Value.agg Tryd.zeroCells129) := ⟨Tryd.underlying129, Tryd.t129, rfl, rfl, rfl, rfl⟩
instance ty130 : Ty Tryd.prog 130 (TypeDesc.array 256 4) 256 256 (Value.agg Tryd.zeroCells130) := ⟨Tryd.underlying130, Tryd.t130, rfl, rfl, rfl, rfl⟩
instance ty131 : Ty Tryd.prog 131 (TypeDesc.tuple #[130, 4]) 1 0 (Value.tuple
        #[Value.agg
            (([Value.bool false, Value.bool false, Value.bool false, Value.bool false, Value.bool false,
                        Value.bool false, Value.bool false, Value.bool false, Value.bool false, Value.bool false,
                        Value.bool false, Value.bool false, Value.bool false, Value.bool false, Value.bool false,
                        Value.bool false, Value.bool false, Value.bool false, Value.bool false, Value.bool false,
                        Value.bool false, Value.bool false, Value.bool false, Value.bool false, Value.bool false,
                        Value.bool false, Value.bool false, Value.bool false, Value.bool false, Value.bool false,
                        Value.bool false, Value.bool false, Value.bool false, Value.bool false, Value.bool false,
                        Value.bool false, Value.bool false, Value.bool false, Value.bool false, Value.bool false,
                        Value.bool false, Value.bool false, Value.bool false, Value.bool false, Value.bool false,
                        Value.bool false, Value.bool false, Value.bool false, Value.bool false, Value.bool false,
                        Value.bool false, Value.bool false, Value.bool false, Value.bool false, Value.bool false,
                        Value.bool false, Value.bool false, Value.bool false, Value.bool false, Value.bool false,
                        Value.bool false, Value.bool false, Value.bool false, Value.bool false].append
                    [Value.bool false, Value.bool false, Value.bool false, Value.bool false, Value.bool false,
                      Value.bool false, Value.bool false, Value.bool false, Value.bool false, Value.bool false,
                      Value.bool false, Value.bool false, Value.bool false, Value.bool false, Value.bool false,
                      Value.bool false, Value.bool false, Value.bool false, Value.bool false, Value.bool false,
                      Value.bool false, Value.bool false, Value.bool false, Value.bool false, Value.bool false,
                      Value.bool false, Value.bool false, Value.bool false, Value.bool false, Value.bool false,
                      Value.bool false, Value.bool false, Value.bool false, Value.bool false, Value.bool false,
                      Value.bool false, Value.bool false, Value.bool false, Value.bool false, Value.bool false,
                      Value.bool false, Value.bool false, Value.bool false, Value.bool false, Value.bool false,
                      Value.bool false, Value.bool false, Value.bool false, Value.bool false, Value.bool false,
                      Value.bool false, Value.bool false, Value.bool false, Value.bool false, Value.bool false,
                      Value.bool false, Value.bool false, Value.bool false, Value.bool false, Value.bool false,
                      Value.bool false, Value.bool false, Value.bool false, Value.bool false]).append
                ([Value.bool false, Value.bool false, Value.bool false, Value.bool false, Value.bool false,
                      Value.bool false, Value.bool false, Value.bool false, Value.bool false, Value.bool false,
                      Value.bool false, Value.bool false, Value.bool false, Value.bool false, Value.bool false,
                      Value.bool false, Value.bool false, Value.bool false, Value.bool false, Value.bool false,
                      Value.bool false, Value.bool false, Value.bool false, Value.bool false, Value.bool false,
                      Value.bool false, Value.bool false, Value.bool false, Value.bool false, Value.bool false,
                      Value.bool false, Value.bool false, Value.bool false, Value.bool false, Value.bool false,
                      Value.bool false, Value.bool false, Value.bool false, Value.bool false, Value.bool false,
                      Value.bool false, Value.bool false, Value.bool false, Value.bool false, Value.bool false,
                      Value.bool false, Value.bool false, Value.bool false, Value.bool false, Value.bool false,
                      Value.bool false, Value.bool false, Value.bool false, Value.bool false, Value.bool false,
                      Value.bool false, Value.bool false, Value.bool false, Value.bool false, Value.bool false,
                      Value.bool false, Value.bool false, Value.bool false, Value.bool false].append
                  [Value.bool false, Value.bool false, Value.bool false, Value.bool false, Value.bool false,
                    Value.bool false, Value.bool false, Value.bool false, Value.bool false, Value.bool false,
                    Value.bool false, Value.bool false, Value.bool false, Value.bool false, Value.bool false,
                    Value.bool false, Value.bool false, Value.bool false, Value.bool false, Value.bool false,
                    Value.bool false, Value.bool false, Value.bool false, Value.bool false, Value.bool false,
                    Value.bool false, Value.bool false, Value.bool false, Value.bool false, Value.bool false,
                    Value.bool false, Value.bool false, Value.bool false, Value.bool false, Value.bool false,
                    Value.bool false, Value.bool false, Value.bool false, Value.bool false, Value.bool false,
                    Value.bool false, Value.bool false, Value.bool false, Value.bool false, Value.bool false,
                    Value.bool false, Value.bool false, Value.bool false, Value.bool false, Value.bool false,
                    Value.bool false, Value.bool false, Value.bool false, Value.bool false, Value.bool false,
                    Value.bool false, Value.bool false, Value.bool false, Value.bool false, Value.bool false,
                    Value.bool false, Value.bool false, Value.bool false, Value.bool false])).toArray,
          Value.bool false]) := ⟨Tryd.underlying131, Tryd.t131, rfl, rfl, rfl, rfl⟩
instance ty132 : Ty Tryd.prog 132 (TypeDesc.func #[9] #[130, 4] false) 1 8 Value.nilFunc := ⟨Tryd.underlying132, Tryd.t132, rfl, rfl, rfl, rfl⟩
instance ty133 : Ty Tryd.prog 133 (TypeDesc.func #[25, 134] #[25] false) 1 8 Value.nilFunc := ⟨Tryd.underlying133, Tryd.t133, rfl, rfl, rfl, rfl⟩
instance ty134 : Ty Tryd.prog 134 (TypeDesc.pointer 130) 1 8 (Value.pointer none) := ⟨Tryd.underlying134, Tryd.t134, rfl, rfl, rfl, rfl⟩
instance ty135 : Ty Tryd.prog 135 (TypeDesc.func #[25, 3, 3, 4] #[32] false) 1 8 Value.nilFunc := ⟨Tryd.underlying135, Tryd.t135, rfl, rfl, rfl, rfl⟩
instance ty136 : Ty Tryd.prog 136 (TypeDesc.func #[3, 3] #[3] false) 1 8 Value.nilFunc := ⟨Tryd.underlying136, Tryd.t136, rfl, rfl, rfl, rfl⟩
instance ty137 : Ty Tryd.prog 137 (TypeDesc.func #[26, 30] #[3] false) 1 8 Value.nilFunc := ⟨Tryd.underlying137, Tryd.t137, rfl, rfl, rfl, rfl⟩
instance ty138 : Ty Tryd.prog 138 (TypeDesc.map 9 4) 1 8 (Value.map none) := ⟨Tryd.underlying138, Tryd.t138, rfl, rfl, rfl, rfl⟩
instance ty139 : Ty Tryd.prog 139 (TypeDesc.array 24 5) 24 24 (Value.agg
        #[Value.int IntKind.u8 0, Value.int IntKind.u8 0, Value.int IntKind.u8 0, Value.int IntKind.u8 0,
          Value.int IntKind.u8 0, Value.int IntKind.u8 0, Value.int IntKind.u8 0, Value.int IntKind.u8 0,
          Value.int IntKind.u8 0, Value.int IntKind.u8 0, Value.int IntKind.u8 0, Value.int IntKind.u8 0,
          Value.int IntKind.u8 0, Value.int IntKind.u8 0, Value.int IntKind.u8 0, Value.int IntKind.u8 0,
          Value.int IntKind.u8 0, Value.int IntKind.u8 0, Value.int IntKind.u8 0, Value.int IntKind.u8 0,
          Value.int IntKind.u8 0, Value.int IntKind.u8 0, Value.int IntKind.u8 0, Value.int IntKind.u8 0]) := ⟨Tryd.underlying139, Tryd.t139, rfl, rfl, rfl, rfl⟩
instance ty140 : Ty Tryd.prog 140 (TypeDesc.int IntKind.u64) 1 8 (Value.int IntKind.u64 0) := ⟨Tryd.underlying140, Tryd.t140, rfl, rfl, rfl, rfl⟩
instance ty141 : Ty Tryd.prog 141 (TypeDesc.func #[140] #[3] false) 1 8 Value.nilFunc := ⟨Tryd.underlying141, Tryd.t141, rfl, rfl, rfl, rfl⟩
instance ty142 : Ty Tryd.prog 142 (TypeDesc.func #[25, 140] #[] false) 1 8 Value.nilFunc := ⟨Tryd.underlying142, Tryd.t142, rfl, rfl, rfl, rfl⟩
instance ty143 : Ty Tryd.prog 143 (TypeDesc.tuple #[25, 9]) 1 0 (Value.tuple #[Value.slice none 0 0, Value.string { data := #[] }]) := ⟨Tryd.underlying143, Tryd.t143, rfl, rfl, rfl, rfl⟩
instance ty144 : Ty Tryd.prog 144 (TypeDesc.func #[25, 140, 3, 4, 4] #[25, 9] false) 1 8 Value.nilFunc := ⟨Tryd.underlying144, Tryd.t144, rfl, rfl, rfl, rfl⟩
instance ty145 : Ty Tryd.prog 145 TypeDesc.unsafePointer 1 8 (Value.pointer none) := ⟨Tryd.underlying145, Tryd.t145, rfl, rfl, rfl, rfl⟩
instance ty146 : Ty Tryd.prog 146 (TypeDesc.func #[145] #[145] false) 1 8 Value.nilFunc := ⟨Tryd.underlying146, Tryd.t146, rfl, rfl, rfl, rfl⟩
instance ty147 : Ty Tryd.prog 147 (TypeDesc.func #[5] #[4] false) 1 8 Value.nilFunc := ⟨Tryd.underlying147, Tryd.t147, rfl, rfl, rfl, rfl⟩
instance ty148 : Ty Tryd.prog 148 (TypeDesc.tuple #[21, 3]) 1 0 (Value.tuple #[Value.int IntKind.i32 0, Value.int IntKind.i64 0]) := ⟨Tryd.underlying148, Tryd.t148, rfl, rfl, rfl, rfl⟩
instance ty149 : Ty Tryd.prog 149 (TypeDesc.func #[25] #[21, 3] false) 1 8 Value.nilFunc := ⟨Tryd.underlying149, Tryd.t149, rfl, rfl, rfl, rfl⟩
instance ty150 : Ty Tryd.prog 150 (TypeDesc.func #[9, 21] #[4] false) 1 8 Value.nilFunc := ⟨Tryd.underlying150, Tryd.t150, rfl, rfl, rfl, rfl⟩
instance ty151 : Ty Tryd.prog 151 (TypeDesc.func #[25, 147] #[4] false) 1 8 Value.nilFunc := ⟨Tryd.underlying151, Tryd.t151, rfl, rfl, rfl, rfl⟩
instance ty152 : Ty Tryd.prog 152 (TypeDesc.func #[4] #[3] false) 1 8 Value.nilFunc := ⟨Tryd.underlying152, Tryd.t152, rfl, rfl, rfl, rfl⟩
instance ty153 : Ty Tryd.prog 153 (TypeDesc.array 20 140) 20 160 (Value.agg
        #[Value.int IntKind.u64 0, Value.int IntKind.u64 0, Value.int IntKind.u64 0, Value.int IntKind.u64 0,
          Value.int IntKind.u64 0, Value.int IntKind.u64 0, Value.int IntKind.u64 0, Value.int IntKind.u64 0,
          Value.int IntKind.u64 0, Value.int IntKind.u64 0, Value.int IntKind.u64 0, Value.int IntKind.u64 0,
          Value.int IntKind.u64 0, Value.int IntKind.u64 0, Value.int IntKind.u64 0, Value.int IntKind.u64 0,
          Value.int IntKind.u64 0, Value.int IntKind.u64 0, Value.int IntKind.u64 0, Value.int IntKind.u64 0]) := ⟨Tryd.underlying153, Tryd.t153, rfl, rfl, rfl, rfl⟩
instance ty154 : Ty Tryd.prog 154 (TypeDesc.int IntKind.u32) 1 4 (Value.int IntKind.u32 0) := ⟨Tryd.underlying154, Tryd.t154, rfl, rfl, rfl, rfl⟩
instance ty155 : Ty Tryd.prog 155 (TypeDesc.array 65 5) 65 65 (Value.agg Tryd.zeroCells155) := ⟨Tryd.underlying155, Tryd.t155, rfl, rfl, rfl, rfl⟩
instance ty156 : Ty Tryd.prog 156 (TypeDesc.func #[3] #[4] false) 1 8 Value.nilFunc := ⟨Tryd.underlying156, Tryd.t156, rfl, rfl, rfl, rfl⟩
instance ty157 : Ty Tryd.prog 157 (TypeDesc.func #[97] #[3] false) 1 8 Value.nilFunc := ⟨Tryd.underlying157, Tryd.t157, rfl, rfl, rfl, rfl⟩
instance ty158 : Ty Tryd.prog 158 (TypeDesc.func #[25, 147] #[3] false) 1 8 Value.nilFunc := ⟨Tryd.underlying158, Tryd.t158, rfl, rfl, rfl, rfl⟩
instance ty159 : Ty Tryd.prog 159 (TypeDesc.func #[154] #[3] false) 1 8 Value.nilFunc := ⟨Tryd.underlying159, Tryd.t159, rfl, rfl, rfl, rfl⟩
instance ty160 : Ty Tryd.prog 160 (TypeDesc.array 256 5) 256 256 (Value.agg Tryd.zeroCells160) := ⟨Tryd.underlying160, Tryd.t160, rfl, rfl, rfl, rfl⟩
instance ty161 : Ty Tryd.prog 161 (TypeDesc.struct
      #[{ name := "lo", type := 5, offset := 0, embedded := false, tag := "", pkgPath := "unicode/utf8",
          byteOffset := 0 },
        { name := "hi", type := 5, offset := 1, embedded := false, tag := "", pkgPath := "unicode/utf8",
          byteOffset := 1 }]) 2 2 (Value.agg #[Value.int IntKind.u8 0, Value.int IntKind.u8 0]) := ⟨Tryd.underlying161, Tryd.t161, rfl, rfl, rfl, rfl⟩
instance ty162 : Ty Tryd.prog 162 (TypeDesc.struct
      #[{ name := "lo", type := 5, offset := 0, embedded := false, tag := "", pkgPath := "unicode/utf8",
          byteOffset := 0 },
        { name := "hi", type := 5, offset := 1, embedded := false, tag := "", pkgPath := "unicode/utf8",
          byteOffset := 1 }]) 2 2 (Value.agg #[Value.int IntKind.u8 0, Value.int IntKind.u8 0]) := ⟨Tryd.underlying162, Tryd.t162, rfl, rfl, rfl, rfl⟩
instance ty163 : Ty Tryd.prog 163 (TypeDesc.array 16 162) 32 32 (Value.agg
        #[Value.int IntKind.u8 0, Value.int IntKind.u8 0, Value.int IntKind.u8 0, Value.int IntKind.u8 0,
          Value.int IntKind.u8 0, Value.int IntKind.u8 0, Value.int IntKind.u8 0, Value.int IntKind.u8 0,
          Value.int IntKind.u8 0, Value.int IntKind.u8 0, Value.int IntKind.u8 0, Value.int IntKind.u8 0,
          Value.int IntKind.u8 0, Value.int IntKind.u8 0, Value.int IntKind.u8 0, Value.int IntKind.u8 0,
          Value.int IntKind.u8 0, Value.int IntKind.u8 0, Value.int IntKind.u8 0, Value.int IntKind.u8 0,
          Value.int IntKind.u8 0, Value.int IntKind.u8 0, Value.int IntKind.u8 0, Value.int IntKind.u8 0,
          Value.int IntKind.u8 0, Value.int IntKind.u8 0, Value.int IntKind.u8 0, Value.int IntKind.u8 0,
          Value.int IntKind.u8 0, Value.int IntKind.u8 0, Value.int IntKind.u8 0, Value.int IntKind.u8 0]) := ⟨Tryd.underlying163, Tryd.t163, rfl, rfl, rfl, rfl⟩
instance ty164 : Ty Tryd.prog 164 (TypeDesc.array 32 5) 32 32 (Value.agg
        #[Value.int IntKind.u8 0, Value.int IntKind.u8 0, Value.int IntKind.u8 0, Value.int IntKind.u8 0,
          Value.int IntKind.u8 0, Value.int IntKind.u8 0, Value.int IntKind.u8 0, Value.int IntKind.u8 0,
          Value.int IntKind.u8 0, Value.int IntKind.u8 0, Value.int IntKind.u8 0, Value.int IntKind.u8 0,
          Value.int IntKind.u8 0, Value.int IntKind.u8 0, Value.int IntKind.u8 0, Value.int IntKind.u8 0,
          Value.int IntKind.u8 0, Value.int IntKind.u8 0, Value.int IntKind.u8 0, Value.int IntKind.u8 0,
          Value.int IntKind.u8 0, Value.int IntKind.u8 0, Value.int IntKind.u8 0, Value.int IntKind.u8 0,
          Value.int IntKind.u8 0, Value.int IntKind.u8 0, Value.int IntKind.u8 0, Value.int IntKind.u8 0,
          Value.int IntKind.u8 0, Value.int IntKind.u8 0, Value.int IntKind.u8 0, Value.int IntKind.u8 0]) := ⟨Tryd.underlying164, Tryd.t164, rfl, rfl, rfl, rfl⟩
instance ty165 : Ty Tryd.prog 165 (TypeDesc.array 64 5) 64 64 (Value.agg
        #[Value.int IntKind.u8 0, Value.int IntKind.u8 0, Value.int IntKind.u8 0, Value.int IntKind.u8 0,
          Value.int IntKind.u8 0, Value.int IntKind.u8 0, Value.int IntKind.u8 0, Value.int IntKind.u8 0,
          Value.int IntKind.u8 0, Value.int IntKind.u8 0, Value.int IntKind.u8 0, Value.int IntKind.u8 0,
          Value.int IntKind.u8 0, Value.int IntKind.u8 0, Value.int IntKind.u8 0, Value.int IntKind.u8 0,
          Value.int IntKind.u8 0, Value.int IntKind.u8 0, Value.int IntKind.u8 0, Value.int IntKind.u8 0,
          Value.int IntKind.u8 0, Value.int IntKind.u8 0, Value.int IntKind.u8 0, Value.int IntKind.u8 0,
          Value.int IntKind.u8 0, Value.int IntKind.u8 0, Value.int IntKind.u8 0, Value.int IntKind.u8 0,
          Value.int IntKind.u8 0, Value.int IntKind.u8 0, Value.int IntKind.u8 0, Value.int IntKind.u8 0,
          Value.int IntKind.u8 0, Value.int IntKind.u8 0, Value.int IntKind.u8 0, Value.int IntKind.u8 0,
          Value.int IntKind.u8 0, Value.int IntKind.u8 0, Value.int IntKind.u8 0, Value.int IntKind.u8 0,
          Value.int IntKind.u8 0, Value.int IntKind.u8 0, Value.int IntKind.u8 0, Value.int IntKind.u8 0,
          Value.int IntKind.u8 0, Value.int IntKind.u8 0, Value.int IntKind.u8 0, Value.int IntKind.u8 0,
          Value.int IntKind.u8 0, Value.int IntKind.u8 0, Value.int IntKind.u8 0, Value.int IntKind.u8 0,
          Value.int IntKind.u8 0, Value.int IntKind.u8 0, Value.int IntKind.u8 0, Value.int IntKind.u8 0,
          Value.int IntKind.u8 0, Value.int IntKind.u8 0, Value.int IntKind.u8 0, Value.int IntKind.u8 0,
          Value.int IntKind.u8 0, Value.int IntKind.u8 0, Value.int IntKind.u8 0, Value.int IntKind.u8 0]) := ⟨Tryd.underlying165, Tryd.t165, rfl, rfl, rfl, rfl⟩
instance ty166 : Ty Tryd.prog 166 (TypeDesc.struct
      #[{ name := "_interface", type := 17, offset := 0, embedded := false, tag := "", pkgPath := "runtime",
          byteOffset := 0 },
        { name := "concrete", type := 17, offset := 1, embedded := false, tag := "", pkgPath := "runtime",
          byteOffset := 8 },
        { name := "asserted", type := 17, offset := 2, embedded := false, tag := "", pkgPath := "runtime",
          byteOffset := 16 },
        { name := "missingMethod", type := 9, offset := 3, embedded := false, tag := "", pkgPath := "runtime",
          byteOffset := 24 }]) 4 40 (Value.agg #[Value.pointer none, Value.pointer none, Value.pointer none, Value.string { data := #[] }]) := ⟨Tryd.underlying166, Tryd.t166, rfl, rfl, rfl, rfl⟩
instance ty167 : Ty Tryd.prog 167 (TypeDesc.struct
      #[{ name := "_interface", type := 17, offset := 0, embedded := false, tag := "", pkgPath := "runtime",
          byteOffset := 0 },
        { name := "concrete", type := 17, offset := 1, embedded := false, tag := "", pkgPath := "runtime",
          byteOffset := 8 },
        { name := "asserted", type := 17, offset := 2, embedded := false, tag := "", pkgPath := "runtime",
          byteOffset := 16 },
        { name := "missingMethod", type := 9, offset := 3, embedded := false, tag := "", pkgPath := "runtime",
          byteOffset := 24 }]) 4 40 (Value.agg #[Value.pointer none, Value.pointer none, Value.pointer none, Value.string { data := #[] }]) := ⟨Tryd.underlying167, Tryd.t167, rfl, rfl, rfl, rfl⟩
instance ty168 : Ty Tryd.prog 168 (TypeDesc.array 0 16) 0 0 (Value.agg #[]) := ⟨Tryd.underlying168, Tryd.t168, rfl, rfl, rfl, rfl⟩
instance ty169 : Ty Tryd.prog 169 (TypeDesc.struct
      #[{ name := "_", type := 168, offset := 0, embedded := false, tag := "", pkgPath := "runtime", byteOffset := 0 }]) 0 0 (Value.agg #[]) := ⟨Tryd.underlying169, Tryd.t169, rfl, rfl, rfl, rfl⟩
instance ty170 : Ty Tryd.prog 170 (TypeDesc.struct
      #[{ name := "_", type := 168, offset := 0, embedded := false, tag := "", pkgPath := "runtime", byteOffset := 0 }]) 0 0 (Value.agg #[]) := ⟨Tryd.underlying170, Tryd.t170, rfl, rfl, rfl, rfl⟩
instance ty171 : Ty Tryd.prog 171 (TypeDesc.func #[] #[3] false) 1 8 Value.nilFunc := ⟨Tryd.underlying171, Tryd.t171, rfl, rfl, rfl, rfl⟩
instance ty172 : Ty Tryd.prog 172 (TypeDesc.int IntKind.u8) 1 1 (Value.int IntKind.u8 0) := ⟨Tryd.underlying172, Tryd.t172, rfl, rfl, rfl, rfl⟩
instance ty173 : Ty Tryd.prog 173 (TypeDesc.int IntKind.u8) 1 1 (Value.int IntKind.u8 0) := ⟨Tryd.underlying173, Tryd.t173, rfl, rfl, rfl, rfl⟩
instance ty174 : Ty Tryd.prog 174 (TypeDesc.func #[145, 145] #[4] false) 1 8 Value.nilFunc := ⟨Tryd.underlying174, Tryd.t174, rfl, rfl, rfl, rfl⟩
instance ty175 : Ty Tryd.prog 175 (TypeDesc.int IntKind.i32) 1 4 (Value.int IntKind.i32 0) := ⟨Tryd.underlying175, Tryd.t175, rfl, rfl, rfl, rfl⟩
instance ty176 : Ty Tryd.prog 176 (TypeDesc.int IntKind.i32) 1 4 (Value.int IntKind.i32 0) := ⟨Tryd.underlying176, Tryd.t176, rfl, rfl, rfl, rfl⟩
instance ty177 : Ty Tryd.prog 177 (TypeDesc.struct
      #[{ name := "Size_", type := 12, offset := 0, embedded := false, tag := "", pkgPath := "", byteOffset := 0 },
        { name := "PtrBytes", type := 12, offset := 1, embedded := false, tag := "", pkgPath := "", byteOffset := 8 },
        { name := "Hash", type := 154, offset := 2, embedded := false, tag := "", pkgPath := "", byteOffset := 16 },
        { name := "TFlag", type := 172, offset := 3, embedded := false, tag := "", pkgPath := "", byteOffset := 20 },
        { name := "Align_", type := 5, offset := 4, embedded := false, tag := "", pkgPath := "", byteOffset := 21 },
        { name := "FieldAlign_", type := 5, offset := 5, embedded := false, tag := "", pkgPath := "",
          byteOffset := 22 },
        { name := "Kind_", type := 173, offset := 6, embedded := false, tag := "", pkgPath := "", byteOffset := 23 },
        { name := "Equal", type := 174, offset := 7, embedded := false, tag := "", pkgPath := "", byteOffset := 24 },
        { name := "GCData", type := 126, offset := 8, embedded := false, tag := "", pkgPath := "", byteOffset := 32 },
        { name := "Str", type := 175, offset := 9, embedded := false, tag := "", pkgPath := "", byteOffset := 40 },
        { name := "PtrToThis", type := 176, offset := 10, embedded := false, tag := "", pkgPath := "",
          byteOffset := 44 }]) 11 48 (Value.agg
        #[Value.int IntKind.u64 0, Value.int IntKind.u64 0, Value.int IntKind.u32 0, Value.int IntKind.u8 0,
          Value.int IntKind.u8 0, Value.int IntKind.u8 0, Value.int IntKind.u8 0, Value.nilFunc, Value.pointer none,
          Value.int IntKind.i32 0, Value.int IntKind.i32 0]) := ⟨Tryd.underlying177, Tryd.t177, rfl, rfl, rfl, rfl⟩
instance ty178 : Ty Tryd.prog 178 (TypeDesc.struct
      #[{ name := "Size_", type := 12, offset := 0, embedded := false, tag := "", pkgPath := "", byteOffset := 0 },
        { name := "PtrBytes", type := 12, offset := 1, embedded := false, tag := "", pkgPath := "", byteOffset := 8 },
        { name := "Hash", type := 154, offset := 2, embedded := false, tag := "", pkgPath := "", byteOffset := 16 },
        { name := "TFlag", type := 172, offset := 3, embedded := false, tag := "", pkgPath := "", byteOffset := 20 },
        { name := "Align_", type := 5, offset := 4, embedded := false, tag := "", pkgPath := "", byteOffset := 21 },
        { name := "FieldAlign_", type := 5, offset := 5, embedded := false, tag := "", pkgPath := "",
          byteOffset := 22 },
        { name := "Kind_", type := 173, offset := 6, embedded := false, tag := "", pkgPath := "", byteOffset := 23 },
        { name := "Equal", type := 174, offset := 7, embedded := false, tag := "", pkgPath := "", byteOffset := 24 },
        { name := "GCData", type := 126, offset := 8, embedded := false, tag := "", pkgPath := "", byteOffset := 32 },
        { name := "Str", type := 175, offset := 9, embedded := false, tag := "", pkgPath := "", byteOffset := 40 },
        { name := "PtrToThis", type := 176, offset := 10, embedded := false, tag := "", pkgPath := "",
          byteOffset := 44 }]) 11 48 (Value.agg
        #[Value.int IntKind.u64 0, Value.int IntKind.u64 0, Value.int IntKind.u32 0, Value.int IntKind.u8 0,
          Value.int IntKind.u8 0, Value.int IntKind.u8 0, Value.int IntKind.u8 0, Value.nilFunc, Value.pointer none,
          Value.int IntKind.i32 0, Value.int IntKind.i32 0]) := ⟨Tryd.underlying178, Tryd.t178, rfl, rfl, rfl, rfl⟩
instance fa7_0 : FieldAt Tryd.prog 7 0 0 := FieldAt.of (i := 0) Tryd.underlying7 rfl ty2 (by decide)
instance fo7_0 : FieldOf Tryd.prog 7 0 0 false 1 := FieldOf.of (i := 0) Tryd.underlying7 rfl ty2
instance fa7_1 : FieldAt Tryd.prog 7 1 1 := FieldAt.of (i := 1) Tryd.underlying7 rfl ty3 (by decide)
instance fo7_1 : FieldOf Tryd.prog 7 1 1 false 1 := FieldOf.of (i := 1) Tryd.underlying7 rfl ty3
instance fa7_2 : FieldAt Tryd.prog 7 2 2 := FieldAt.of (i := 2) Tryd.underlying7 rfl ty4 (by decide)
instance fo7_2 : FieldOf Tryd.prog 7 2 2 false 1 := FieldOf.of (i := 2) Tryd.underlying7 rfl ty4
instance fa7_3 : FieldAt Tryd.prog 7 3 3 := FieldAt.of (i := 3) Tryd.underlying7 rfl ty6 (by decide)
instance fo7_3 : FieldOf Tryd.prog 7 3 3 false 1 := FieldOf.of (i := 3) Tryd.underlying7 rfl ty6
instance bt7 : BuildT Tryd.prog 7 [(0, 1), (1, 1), (2, 1), (3, 1)] [Value.int IntKind.i64 0, Value.int IntKind.i64 0, Value.bool false, Value.int IntKind.u8 0] := BuildT.of Tryd.underlying7 Tryd.zeroValue7 (fun w => by kernel_rfl) (by decide)
instance fa8_0 : FieldAt Tryd.prog 8 0 0 := FieldAt.of (i := 0) Tryd.underlying8 rfl ty2 (by decide)
instance fo8_0 : FieldOf Tryd.prog 8 0 0 false 1 := FieldOf.of (i := 0) Tryd.underlying8 rfl ty2
instance fa8_1 : FieldAt Tryd.prog 8 1 1 := FieldAt.of (i := 1) Tryd.underlying8 rfl ty3 (by decide)
instance fo8_1 : FieldOf Tryd.prog 8 1 1 false 1 := FieldOf.of (i := 1) Tryd.underlying8 rfl ty3
instance fa8_2 : FieldAt Tryd.prog 8 2 2 := FieldAt.of (i := 2) Tryd.underlying8 rfl ty4 (by decide)
instance fo8_2 : FieldOf Tryd.prog 8 2 2 false 1 := FieldOf.of (i := 2) Tryd.underlying8 rfl ty4
instance fa8_3 : FieldAt Tryd.prog 8 3 3 := FieldAt.of (i := 3) Tryd.underlying8 rfl ty6 (by decide)
instance fo8_3 : FieldOf Tryd.prog 8 3 3 false 1 := FieldOf.of (i := 3) Tryd.underlying8 rfl ty6
instance bt8 : BuildT Tryd.prog 8 [(0, 1), (1, 1), (2, 1), (3, 1)] [Value.int IntKind.i64 0, Value.int IntKind.i64 0, Value.bool false, Value.int IntKind.u8 0] := BuildT.of Tryd.underlying8 Tryd.zeroValue8 (fun w => by kernel_rfl) (by decide)
instance fa13_0 : FieldAt Tryd.prog 13 0 0 := FieldAt.of (i := 0) Tryd.underlying13 rfl ty9 (by decide)
instance fo13_0 : FieldOf Tryd.prog 13 0 0 false 1 := FieldOf.of (i := 0) Tryd.underlying13 rfl ty9
instance fa13_1 : FieldAt Tryd.prog 13 1 1 := FieldAt.of (i := 1) Tryd.underlying13 rfl ty12 (by decide)
instance fo13_1 : FieldOf Tryd.prog 13 1 1 false 1 := FieldOf.of (i := 1) Tryd.underlying13 rfl ty12
instance bt13 : BuildT Tryd.prog 13 [(0, 1), (1, 1)] [Value.string { data := #[] }, Value.int IntKind.u64 0] := BuildT.of Tryd.underlying13 Tryd.zeroValue13 (fun w => by kernel_rfl) (by decide)
instance fa14_0 : FieldAt Tryd.prog 14 0 0 := FieldAt.of (i := 0) Tryd.underlying14 rfl ty9 (by decide)
instance fo14_0 : FieldOf Tryd.prog 14 0 0 false 1 := FieldOf.of (i := 0) Tryd.underlying14 rfl ty9
instance fa14_1 : FieldAt Tryd.prog 14 1 1 := FieldAt.of (i := 1) Tryd.underlying14 rfl ty12 (by decide)
instance fo14_1 : FieldOf Tryd.prog 14 1 1 false 1 := FieldOf.of (i := 1) Tryd.underlying14 rfl ty12
instance bt14 : BuildT Tryd.prog 14 [(0, 1), (1, 1)] [Value.string { data := #[] }, Value.int IntKind.u64 0] := BuildT.of Tryd.underlying14 Tryd.zeroValue14 (fun w => by kernel_rfl) (by decide)
instance fa18_0 : FieldAt Tryd.prog 18 0 0 := FieldAt.of (i := 0) Tryd.underlying18 rfl ty17 (by decide)
instance fo18_0 : FieldOf Tryd.prog 18 0 0 false 1 := FieldOf.of (i := 0) Tryd.underlying18 rfl ty17
instance bt18 : BuildT Tryd.prog 18 [(0, 1)] [Value.pointer none] := BuildT.of Tryd.underlying18 Tryd.zeroValue18 (fun w => by kernel_rfl) (by decide)
instance fa19_0 : FieldAt Tryd.prog 19 0 0 := FieldAt.of (i := 0) Tryd.underlying19 rfl ty17 (by decide)
instance fo19_0 : FieldOf Tryd.prog 19 0 0 false 1 := FieldOf.of (i := 0) Tryd.underlying19 rfl ty17
instance bt19 : BuildT Tryd.prog 19 [(0, 1)] [Value.pointer none] := BuildT.of Tryd.underlying19 Tryd.zeroValue19 (fun w => by kernel_rfl) (by decide)
instance fa23_0 : FieldAt Tryd.prog 23 0 0 := FieldAt.of (i := 0) Tryd.underlying23 rfl ty3 (by decide)
instance fo23_0 : FieldOf Tryd.prog 23 0 0 false 1 := FieldOf.of (i := 0) Tryd.underlying23 rfl ty3
instance fa23_1 : FieldAt Tryd.prog 23 1 1 := FieldAt.of (i := 1) Tryd.underlying23 rfl ty9 (by decide)
instance fo23_1 : FieldOf Tryd.prog 23 1 1 false 1 := FieldOf.of (i := 1) Tryd.underlying23 rfl ty9
instance fa23_2 : FieldAt Tryd.prog 23 2 2 := FieldAt.of (i := 2) Tryd.underlying23 rfl ty3 (by decide)
instance fo23_2 : FieldOf Tryd.prog 23 2 2 false 1 := FieldOf.of (i := 2) Tryd.underlying23 rfl ty3
instance fa23_3 : FieldAt Tryd.prog 23 3 3 := FieldAt.of (i := 3) Tryd.underlying23 rfl ty3 (by decide)
instance fo23_3 : FieldOf Tryd.prog 23 3 3 false 1 := FieldOf.of (i := 3) Tryd.underlying23 rfl ty3
instance fa23_4 : FieldAt Tryd.prog 23 4 4 := FieldAt.of (i := 4) Tryd.underlying23 rfl ty4 (by decide)
instance fo23_4 : FieldOf Tryd.prog 23 4 4 false 1 := FieldOf.of (i := 4) Tryd.underlying23 rfl ty4
instance fa23_5 : FieldAt Tryd.prog 23 5 5 := FieldAt.of (i := 5) Tryd.underlying23 rfl ty22 (by decide)
instance fo23_5 : FieldOf Tryd.prog 23 5 5 false 1 := FieldOf.of (i := 5) Tryd.underlying23 rfl ty22
instance bt23 : BuildT Tryd.prog 23 [(0, 1), (1, 1), (2, 1), (3, 1), (4, 1), (5, 1)] [Value.int IntKind.i64 0, Value.string { data := #[] }, Value.int IntKind.i64 0, Value.int IntKind.i64 0,
          Value.bool false, Value.slice none 0 0] := BuildT.of Tryd.underlying23 Tryd.zeroValue23 (fun w => by kernel_rfl) (by decide)
instance fa24_0 : FieldAt Tryd.prog 24 0 0 := FieldAt.of (i := 0) Tryd.underlying24 rfl ty3 (by decide)
instance fo24_0 : FieldOf Tryd.prog 24 0 0 false 1 := FieldOf.of (i := 0) Tryd.underlying24 rfl ty3
instance fa24_1 : FieldAt Tryd.prog 24 1 1 := FieldAt.of (i := 1) Tryd.underlying24 rfl ty9 (by decide)
instance fo24_1 : FieldOf Tryd.prog 24 1 1 false 1 := FieldOf.of (i := 1) Tryd.underlying24 rfl ty9
instance fa24_2 : FieldAt Tryd.prog 24 2 2 := FieldAt.of (i := 2) Tryd.underlying24 rfl ty3 (by decide)
instance fo24_2 : FieldOf Tryd.prog 24 2 2 false 1 := FieldOf.of (i := 2) Tryd.underlying24 rfl ty3
instance fa24_3 : FieldAt Tryd.prog 24 3 3 := FieldAt.of (i := 3) Tryd.underlying24 rfl ty3 (by decide)
instance fo24_3 : FieldOf Tryd.prog 24 3 3 false 1 := FieldOf.of (i := 3) Tryd.underlying24 rfl ty3
instance fa24_4 : FieldAt Tryd.prog 24 4 4 := FieldAt.of (i := 4) Tryd.underlying24 rfl ty4 (by decide)
instance fo24_4 : FieldOf Tryd.prog 24 4 4 false 1 := FieldOf.of (i := 4) Tryd.underlying24 rfl ty4
instance fa24_5 : FieldAt Tryd.prog 24 5 5 := FieldAt.of (i := 5) Tryd.underlying24 rfl ty22 (by decide)
instance fo24_5 : FieldOf Tryd.prog 24 5 5 false 1 := FieldOf.of (i := 5) Tryd.underlying24 rfl ty22
instance bt24 : BuildT Tryd.prog 24 [(0, 1), (1, 1), (2, 1), (3, 1), (4, 1), (5, 1)] [Value.int IntKind.i64 0, Value.string { data := #[] }, Value.int IntKind.i64 0, Value.int IntKind.i64 0,
          Value.bool false, Value.slice none 0 0] := BuildT.of Tryd.underlying24 Tryd.zeroValue24 (fun w => by kernel_rfl) (by decide)
instance fa27_0 : FieldAt Tryd.prog 27 0 0 := FieldAt.of (i := 0) Tryd.underlying27 rfl ty3 (by decide)
instance fo27_0 : FieldOf Tryd.prog 27 0 0 false 1 := FieldOf.of (i := 0) Tryd.underlying27 rfl ty3
instance fa27_1 : FieldAt Tryd.prog 27 1 1 := FieldAt.of (i := 1) Tryd.underlying27 rfl ty3 (by decide)
instance fo27_1 : FieldOf Tryd.prog 27 1 1 false 1 := FieldOf.of (i := 1) Tryd.underlying27 rfl ty3
instance fa27_2 : FieldAt Tryd.prog 27 2 2 := FieldAt.of (i := 2) Tryd.underlying27 rfl ty25 (by decide)
instance fo27_2 : FieldOf Tryd.prog 27 2 2 false 1 := FieldOf.of (i := 2) Tryd.underlying27 rfl ty25
instance fa27_3 : FieldAt Tryd.prog 27 3 3 := FieldAt.of (i := 3) Tryd.underlying27 rfl ty4 (by decide)
instance fo27_3 : FieldOf Tryd.prog 27 3 3 false 1 := FieldOf.of (i := 3) Tryd.underlying27 rfl ty4
instance fa27_4 : FieldAt Tryd.prog 27 4 4 := FieldAt.of (i := 4) Tryd.underlying27 rfl ty26 (by decide)
instance fo27_4 : FieldOf Tryd.prog 27 4 4 false 1 := FieldOf.of (i := 4) Tryd.underlying27 rfl ty26
instance bt27 : BuildT Tryd.prog 27 [(0, 1), (1, 1), (2, 1), (3, 1), (4, 1)] [Value.int IntKind.i64 0, Value.int IntKind.i64 0, Value.slice none 0 0, Value.bool false,
          Value.slice none 0 0] := BuildT.of Tryd.underlying27 Tryd.zeroValue27 (fun w => by kernel_rfl) (by decide)
instance fa28_0 : FieldAt Tryd.prog 28 0 0 := FieldAt.of (i := 0) Tryd.underlying28 rfl ty3 (by decide)
instance fo28_0 : FieldOf Tryd.prog 28 0 0 false 1 := FieldOf.of (i := 0) Tryd.underlying28 rfl ty3
instance fa28_1 : FieldAt Tryd.prog 28 1 1 := FieldAt.of (i := 1) Tryd.underlying28 rfl ty3 (by decide)
instance fo28_1 : FieldOf Tryd.prog 28 1 1 false 1 := FieldOf.of (i := 1) Tryd.underlying28 rfl ty3
instance fa28_2 : FieldAt Tryd.prog 28 2 2 := FieldAt.of (i := 2) Tryd.underlying28 rfl ty25 (by decide)
instance fo28_2 : FieldOf Tryd.prog 28 2 2 false 1 := FieldOf.of (i := 2) Tryd.underlying28 rfl ty25
instance fa28_3 : FieldAt Tryd.prog 28 3 3 := FieldAt.of (i := 3) Tryd.underlying28 rfl ty4 (by decide)
instance fo28_3 : FieldOf Tryd.prog 28 3 3 false 1 := FieldOf.of (i := 3) Tryd.underlying28 rfl ty4
instance fa28_4 : FieldAt Tryd.prog 28 4 4 := FieldAt.of (i := 4) Tryd.underlying28 rfl ty26 (by decide)
instance fo28_4 : FieldOf Tryd.prog 28 4 4 false 1 := FieldOf.of (i := 4) Tryd.underlying28 rfl ty26
instance bt28 : BuildT Tryd.prog 28 [(0, 1), (1, 1), (2, 1), (3, 1), (4, 1)] [Value.int IntKind.i64 0, Value.int IntKind.i64 0, Value.slice none 0 0, Value.bool false,
          Value.slice none 0 0] := BuildT.of Tryd.underlying28 Tryd.zeroValue28 (fun w => by kernel_rfl) (by decide)
instance fa54_0 : FieldAt Tryd.prog 54 0 0 := FieldAt.of (i := 0) Tryd.underlying54 rfl ty4 (by decide)
instance fo54_0 : FieldOf Tryd.prog 54 0 0 false 1 := FieldOf.of (i := 0) Tryd.underlying54 rfl ty4
instance bt54 : BuildT Tryd.prog 54 [(0, 1)] [Value.bool false] := BuildT.of Tryd.underlying54 Tryd.zeroValue54 (fun w => by kernel_rfl) (by decide)
instance fa55_0 : FieldAt Tryd.prog 55 0 0 := FieldAt.of (i := 0) Tryd.underlying55 rfl ty4 (by decide)
instance fo55_0 : FieldOf Tryd.prog 55 0 0 false 1 := FieldOf.of (i := 0) Tryd.underlying55 rfl ty4
instance bt55 : BuildT Tryd.prog 55 [(0, 1)] [Value.bool false] := BuildT.of Tryd.underlying55 Tryd.zeroValue55 (fun w => by kernel_rfl) (by decide)
instance fa59_0 : FieldAt Tryd.prog 59 0 0 := FieldAt.of (i := 0) Tryd.underlying59 rfl ty25 (by decide)
instance fo59_0 : FieldOf Tryd.prog 59 0 0 false 1 := FieldOf.of (i := 0) Tryd.underlying59 rfl ty25
instance fa59_1 : FieldAt Tryd.prog 59 1 1 := FieldAt.of (i := 1) Tryd.underlying59 rfl ty3 (by decide)
instance fo59_1 : FieldOf Tryd.prog 59 1 1 false 1 := FieldOf.of (i := 1) Tryd.underlying59 rfl ty3
instance fa59_2 : FieldAt Tryd.prog 59 2 2 := FieldAt.of (i := 2) Tryd.underlying59 rfl ty58 (by decide)
instance fo59_2 : FieldOf Tryd.prog 59 2 2 false 1 := FieldOf.of (i := 2) Tryd.underlying59 rfl ty58
instance fa59_3 : FieldAt Tryd.prog 59 3 3 := FieldAt.of (i := 3) Tryd.underlying59 rfl ty4 (by decide)
instance fo59_3 : FieldOf Tryd.prog 59 3 3 false 1 := FieldOf.of (i := 3) Tryd.underlying59 rfl ty4
instance fa59_4 : FieldAt Tryd.prog 59 4 4 := FieldAt.of (i := 4) Tryd.underlying59 rfl ty4 (by decide)
instance fo59_4 : FieldOf Tryd.prog 59 4 4 false 1 := FieldOf.of (i := 4) Tryd.underlying59 rfl ty4
instance bt59 : BuildT Tryd.prog 59 [(0, 1), (1, 1), (2, 1), (3, 1), (4, 1)] [Value.slice none 0 0, Value.int IntKind.i64 0, Value.int IntKind.i64 0, Value.bool false, Value.bool false] := BuildT.of Tryd.underlying59 Tryd.zeroValue59 (fun w => by kernel_rfl) (by decide)
instance fa60_0 : FieldAt Tryd.prog 60 0 0 := FieldAt.of (i := 0) Tryd.underlying60 rfl ty25 (by decide)
instance fo60_0 : FieldOf Tryd.prog 60 0 0 false 1 := FieldOf.of (i := 0) Tryd.underlying60 rfl ty25
instance fa60_1 : FieldAt Tryd.prog 60 1 1 := FieldAt.of (i := 1) Tryd.underlying60 rfl ty3 (by decide)
instance fo60_1 : FieldOf Tryd.prog 60 1 1 false 1 := FieldOf.of (i := 1) Tryd.underlying60 rfl ty3
instance fa60_2 : FieldAt Tryd.prog 60 2 2 := FieldAt.of (i := 2) Tryd.underlying60 rfl ty58 (by decide)
instance fo60_2 : FieldOf Tryd.prog 60 2 2 false 1 := FieldOf.of (i := 2) Tryd.underlying60 rfl ty58
instance fa60_3 : FieldAt Tryd.prog 60 3 3 := FieldAt.of (i := 3) Tryd.underlying60 rfl ty4 (by decide)
instance fo60_3 : FieldOf Tryd.prog 60 3 3 false 1 := FieldOf.of (i := 3) Tryd.underlying60 rfl ty4
instance fa60_4 : FieldAt Tryd.prog 60 4 4 := FieldAt.of (i := 4) Tryd.underlying60 rfl ty4 (by decide)
instance fo60_4 : FieldOf Tryd.prog 60 4 4 false 1 := FieldOf.of (i := 4) Tryd.underlying60 rfl ty4
instance bt60 : BuildT Tryd.prog 60 [(0, 1), (1, 1), (2, 1), (3, 1), (4, 1)] [Value.slice none 0 0, Value.int IntKind.i64 0, Value.int IntKind.i64 0, Value.bool false, Value.bool false] := BuildT.of Tryd.underlying60 Tryd.zeroValue60 (fun w => by kernel_rfl) (by decide)
instance fa63_0 : FieldAt Tryd.prog 63 0 0 := FieldAt.of (i := 0) Tryd.underlying63 rfl ty25 (by decide)
instance fo63_0 : FieldOf Tryd.prog 63 0 0 false 1 := FieldOf.of (i := 0) Tryd.underlying63 rfl ty25
instance fa63_1 : FieldAt Tryd.prog 63 1 1 := FieldAt.of (i := 1) Tryd.underlying63 rfl ty3 (by decide)
instance fo63_1 : FieldOf Tryd.prog 63 1 1 false 1 := FieldOf.of (i := 1) Tryd.underlying63 rfl ty3
instance fa63_2 : FieldAt Tryd.prog 63 2 2 := FieldAt.of (i := 2) Tryd.underlying63 rfl ty4 (by decide)
instance fo63_2 : FieldOf Tryd.prog 63 2 2 false 1 := FieldOf.of (i := 2) Tryd.underlying63 rfl ty4
instance fa63_3 : FieldAt Tryd.prog 63 3 3 := FieldAt.of (i := 3) Tryd.underlying63 rfl ty3 (by decide)
instance fo63_3 : FieldOf Tryd.prog 63 3 3 false 1 := FieldOf.of (i := 3) Tryd.underlying63 rfl ty3
instance fa63_4 : FieldAt Tryd.prog 63 4 4 := FieldAt.of (i := 4) Tryd.underlying63 rfl ty4 (by decide)
instance fo63_4 : FieldOf Tryd.prog 63 4 4 false 1 := FieldOf.of (i := 4) Tryd.underlying63 rfl ty4
instance bt63 : BuildT Tryd.prog 63 [(0, 1), (1, 1), (2, 1), (3, 1), (4, 1)] [Value.slice none 0 0, Value.int IntKind.i64 0, Value.bool false, Value.int IntKind.i64 0, Value.bool false] := BuildT.of Tryd.underlying63 Tryd.zeroValue63 (fun w => by kernel_rfl) (by decide)
instance fa64_0 : FieldAt Tryd.prog 64 0 0 := FieldAt.of (i := 0) Tryd.underlying64 rfl ty25 (by decide)
instance fo64_0 : FieldOf Tryd.prog 64 0 0 false 1 := FieldOf.of (i := 0) Tryd.underlying64 rfl ty25
instance fa64_1 : FieldAt Tryd.prog 64 1 1 := FieldAt.of (i := 1) Tryd.underlying64 rfl ty3 (by decide)
instance fo64_1 : FieldOf Tryd.prog 64 1 1 false 1 := FieldOf.of (i := 1) Tryd.underlying64 rfl ty3
instance fa64_2 : FieldAt Tryd.prog 64 2 2 := FieldAt.of (i := 2) Tryd.underlying64 rfl ty4 (by decide)
instance fo64_2 : FieldOf Tryd.prog 64 2 2 false 1 := FieldOf.of (i := 2) Tryd.underlying64 rfl ty4
instance fa64_3 : FieldAt Tryd.prog 64 3 3 := FieldAt.of (i := 3) Tryd.underlying64 rfl ty3 (by decide)
instance fo64_3 : FieldOf Tryd.prog 64 3 3 false 1 := FieldOf.of (i := 3) Tryd.underlying64 rfl ty3
instance fa64_4 : FieldAt Tryd.prog 64 4 4 := FieldAt.of (i := 4) Tryd.underlying64 rfl ty4 (by decide)
instance fo64_4 : FieldOf Tryd.prog 64 4 4 false 1 := FieldOf.of (i := 4) Tryd.underlying64 rfl ty4
instance bt64 : BuildT Tryd.prog 64 [(0, 1), (1, 1), (2, 1), (3, 1), (4, 1)] [Value.slice none 0 0, Value.int IntKind.i64 0, Value.bool false, Value.int IntKind.i64 0, Value.bool false] := BuildT.of Tryd.underlying64 Tryd.zeroValue64 (fun w => by kernel_rfl) (by decide)
instance fa68_0 : FieldAt Tryd.prog 68 0 0 := FieldAt.of (i := 0) Tryd.underlying68 rfl ty4 (by decide)
instance fo68_0 : FieldOf Tryd.prog 68 0 0 false 1 := FieldOf.of (i := 0) Tryd.underlying68 rfl ty4
instance bt68 : BuildT Tryd.prog 68 [(0, 1)] [Value.bool false] := BuildT.of Tryd.underlying68 Tryd.zeroValue68 (fun w => by kernel_rfl) (by decide)
instance fa69_0 : FieldAt Tryd.prog 69 0 0 := FieldAt.of (i := 0) Tryd.underlying69 rfl ty4 (by decide)
instance fo69_0 : FieldOf Tryd.prog 69 0 0 false 1 := FieldOf.of (i := 0) Tryd.underlying69 rfl ty4
instance bt69 : BuildT Tryd.prog 69 [(0, 1)] [Value.bool false] := BuildT.of Tryd.underlying69 Tryd.zeroValue69 (fun w => by kernel_rfl) (by decide)
instance fa73_0 : FieldAt Tryd.prog 73 0 0 := FieldAt.of (i := 0) Tryd.underlying73 rfl ty25 (by decide)
instance fo73_0 : FieldOf Tryd.prog 73 0 0 false 1 := FieldOf.of (i := 0) Tryd.underlying73 rfl ty25
instance fa73_1 : FieldAt Tryd.prog 73 1 1 := FieldAt.of (i := 1) Tryd.underlying73 rfl ty3 (by decide)
instance fo73_1 : FieldOf Tryd.prog 73 1 1 false 1 := FieldOf.of (i := 1) Tryd.underlying73 rfl ty3
instance fa73_2 : FieldAt Tryd.prog 73 2 2 := FieldAt.of (i := 2) Tryd.underlying73 rfl ty4 (by decide)
instance fo73_2 : FieldOf Tryd.prog 73 2 2 false 1 := FieldOf.of (i := 2) Tryd.underlying73 rfl ty4
instance bt73 : BuildT Tryd.prog 73 [(0, 1), (1, 1), (2, 1)] [Value.slice none 0 0, Value.int IntKind.i64 0, Value.bool false] := BuildT.of Tryd.underlying73 Tryd.zeroValue73 (fun w => by kernel_rfl) (by decide)
instance fa74_0 : FieldAt Tryd.prog 74 0 0 := FieldAt.of (i := 0) Tryd.underlying74 rfl ty25 (by decide)
instance fo74_0 : FieldOf Tryd.prog 74 0 0 false 1 := FieldOf.of (i := 0) Tryd.underlying74 rfl ty25
instance fa74_1 : FieldAt Tryd.prog 74 1 1 := FieldAt.of (i := 1) Tryd.underlying74 rfl ty3 (by decide)
instance fo74_1 : FieldOf Tryd.prog 74 1 1 false 1 := FieldOf.of (i := 1) Tryd.underlying74 rfl ty3
instance fa74_2 : FieldAt Tryd.prog 74 2 2 := FieldAt.of (i := 2) Tryd.underlying74 rfl ty4 (by decide)
instance fo74_2 : FieldOf Tryd.prog 74 2 2 false 1 := FieldOf.of (i := 2) Tryd.underlying74 rfl ty4
instance bt74 : BuildT Tryd.prog 74 [(0, 1), (1, 1), (2, 1)] [Value.slice none 0 0, Value.int IntKind.i64 0, Value.bool false] := BuildT.of Tryd.underlying74 Tryd.zeroValue74 (fun w => by kernel_rfl) (by decide)
instance fa103_0 : FieldAt Tryd.prog 103 0 0 := FieldAt.of (i := 0) Tryd.underlying103 rfl ty102 (by decide)
instance fo103_0 : FieldOf Tryd.prog 103 0 0 false 1 := FieldOf.of (i := 0) Tryd.underlying103 rfl ty102
instance fa103_1 : FieldAt Tryd.prog 103 1 1 := FieldAt.of (i := 1) Tryd.underlying103 rfl ty25 (by decide)
instance fo103_1 : FieldOf Tryd.prog 103 1 1 false 1 := FieldOf.of (i := 1) Tryd.underlying103 rfl ty25
instance bt103 : BuildT Tryd.prog 103 [(0, 1), (1, 1)] [Value.pointer none, Value.slice none 0 0] := BuildT.of Tryd.underlying103 Tryd.zeroValue103 (fun w => by kernel_rfl) (by decide)
instance fa104_0 : FieldAt Tryd.prog 104 0 0 := FieldAt.of (i := 0) Tryd.underlying104 rfl ty102 (by decide)
instance fo104_0 : FieldOf Tryd.prog 104 0 0 false 1 := FieldOf.of (i := 0) Tryd.underlying104 rfl ty102
instance fa104_1 : FieldAt Tryd.prog 104 1 1 := FieldAt.of (i := 1) Tryd.underlying104 rfl ty25 (by decide)
instance fo104_1 : FieldOf Tryd.prog 104 1 1 false 1 := FieldOf.of (i := 1) Tryd.underlying104 rfl ty25
instance bt104 : BuildT Tryd.prog 104 [(0, 1), (1, 1)] [Value.pointer none, Value.slice none 0 0] := BuildT.of Tryd.underlying104 Tryd.zeroValue104 (fun w => by kernel_rfl) (by decide)
instance fa161_0 : FieldAt Tryd.prog 161 0 0 := FieldAt.of (i := 0) Tryd.underlying161 rfl ty5 (by decide)
instance fo161_0 : FieldOf Tryd.prog 161 0 0 false 1 := FieldOf.of (i := 0) Tryd.underlying161 rfl ty5
instance fa161_1 : FieldAt Tryd.prog 161 1 1 := FieldAt.of (i := 1) Tryd.underlying161 rfl ty5 (by decide)
instance fo161_1 : FieldOf Tryd.prog 161 1 1 false 1 := FieldOf.of (i := 1) Tryd.underlying161 rfl ty5
instance bt161 : BuildT Tryd.prog 161 [(0, 1), (1, 1)] [Value.int IntKind.u8 0, Value.int IntKind.u8 0] := BuildT.of Tryd.underlying161 Tryd.zeroValue161 (fun w => by kernel_rfl) (by decide)
instance fa162_0 : FieldAt Tryd.prog 162 0 0 := FieldAt.of (i := 0) Tryd.underlying162 rfl ty5 (by decide)
instance fo162_0 : FieldOf Tryd.prog 162 0 0 false 1 := FieldOf.of (i := 0) Tryd.underlying162 rfl ty5
instance fa162_1 : FieldAt Tryd.prog 162 1 1 := FieldAt.of (i := 1) Tryd.underlying162 rfl ty5 (by decide)
instance fo162_1 : FieldOf Tryd.prog 162 1 1 false 1 := FieldOf.of (i := 1) Tryd.underlying162 rfl ty5
instance bt162 : BuildT Tryd.prog 162 [(0, 1), (1, 1)] [Value.int IntKind.u8 0, Value.int IntKind.u8 0] := BuildT.of Tryd.underlying162 Tryd.zeroValue162 (fun w => by kernel_rfl) (by decide)
instance fa166_0 : FieldAt Tryd.prog 166 0 0 := FieldAt.of (i := 0) Tryd.underlying166 rfl ty17 (by decide)
instance fo166_0 : FieldOf Tryd.prog 166 0 0 false 1 := FieldOf.of (i := 0) Tryd.underlying166 rfl ty17
instance fa166_1 : FieldAt Tryd.prog 166 1 1 := FieldAt.of (i := 1) Tryd.underlying166 rfl ty17 (by decide)
instance fo166_1 : FieldOf Tryd.prog 166 1 1 false 1 := FieldOf.of (i := 1) Tryd.underlying166 rfl ty17
instance fa166_2 : FieldAt Tryd.prog 166 2 2 := FieldAt.of (i := 2) Tryd.underlying166 rfl ty17 (by decide)
instance fo166_2 : FieldOf Tryd.prog 166 2 2 false 1 := FieldOf.of (i := 2) Tryd.underlying166 rfl ty17
instance fa166_3 : FieldAt Tryd.prog 166 3 3 := FieldAt.of (i := 3) Tryd.underlying166 rfl ty9 (by decide)
instance fo166_3 : FieldOf Tryd.prog 166 3 3 false 1 := FieldOf.of (i := 3) Tryd.underlying166 rfl ty9
instance bt166 : BuildT Tryd.prog 166 [(0, 1), (1, 1), (2, 1), (3, 1)] [Value.pointer none, Value.pointer none, Value.pointer none, Value.string { data := #[] }] := BuildT.of Tryd.underlying166 Tryd.zeroValue166 (fun w => by kernel_rfl) (by decide)
instance fa167_0 : FieldAt Tryd.prog 167 0 0 := FieldAt.of (i := 0) Tryd.underlying167 rfl ty17 (by decide)
instance fo167_0 : FieldOf Tryd.prog 167 0 0 false 1 := FieldOf.of (i := 0) Tryd.underlying167 rfl ty17
instance fa167_1 : FieldAt Tryd.prog 167 1 1 := FieldAt.of (i := 1) Tryd.underlying167 rfl ty17 (by decide)
instance fo167_1 : FieldOf Tryd.prog 167 1 1 false 1 := FieldOf.of (i := 1) Tryd.underlying167 rfl ty17
instance fa167_2 : FieldAt Tryd.prog 167 2 2 := FieldAt.of (i := 2) Tryd.underlying167 rfl ty17 (by decide)
instance fo167_2 : FieldOf Tryd.prog 167 2 2 false 1 := FieldOf.of (i := 2) Tryd.underlying167 rfl ty17
instance fa167_3 : FieldAt Tryd.prog 167 3 3 := FieldAt.of (i := 3) Tryd.underlying167 rfl ty9 (by decide)
instance fo167_3 : FieldOf Tryd.prog 167 3 3 false 1 := FieldOf.of (i := 3) Tryd.underlying167 rfl ty9
instance bt167 : BuildT Tryd.prog 167 [(0, 1), (1, 1), (2, 1), (3, 1)] [Value.pointer none, Value.pointer none, Value.pointer none, Value.string { data := #[] }] := BuildT.of Tryd.underlying167 Tryd.zeroValue167 (fun w => by kernel_rfl) (by decide)
instance fo169_0 : FieldOf Tryd.prog 169 0 0 true 0 := FieldOf.of (i := 0) Tryd.underlying169 rfl ty168
instance bt169 : BuildT Tryd.prog 169 [(0, 0)] [] := BuildT.of Tryd.underlying169 Tryd.zeroValue169 (fun w => by kernel_rfl) (by decide)
instance fo170_0 : FieldOf Tryd.prog 170 0 0 true 0 := FieldOf.of (i := 0) Tryd.underlying170 rfl ty168
instance bt170 : BuildT Tryd.prog 170 [(0, 0)] [] := BuildT.of Tryd.underlying170 Tryd.zeroValue170 (fun w => by kernel_rfl) (by decide)
instance fa177_0 : FieldAt Tryd.prog 177 0 0 := FieldAt.of (i := 0) Tryd.underlying177 rfl ty12 (by decide)
instance fo177_0 : FieldOf Tryd.prog 177 0 0 false 1 := FieldOf.of (i := 0) Tryd.underlying177 rfl ty12
instance fa177_1 : FieldAt Tryd.prog 177 1 1 := FieldAt.of (i := 1) Tryd.underlying177 rfl ty12 (by decide)
instance fo177_1 : FieldOf Tryd.prog 177 1 1 false 1 := FieldOf.of (i := 1) Tryd.underlying177 rfl ty12
instance fa177_2 : FieldAt Tryd.prog 177 2 2 := FieldAt.of (i := 2) Tryd.underlying177 rfl ty154 (by decide)
instance fo177_2 : FieldOf Tryd.prog 177 2 2 false 1 := FieldOf.of (i := 2) Tryd.underlying177 rfl ty154
instance fa177_3 : FieldAt Tryd.prog 177 3 3 := FieldAt.of (i := 3) Tryd.underlying177 rfl ty172 (by decide)
instance fo177_3 : FieldOf Tryd.prog 177 3 3 false 1 := FieldOf.of (i := 3) Tryd.underlying177 rfl ty172
instance fa177_4 : FieldAt Tryd.prog 177 4 4 := FieldAt.of (i := 4) Tryd.underlying177 rfl ty5 (by decide)
instance fo177_4 : FieldOf Tryd.prog 177 4 4 false 1 := FieldOf.of (i := 4) Tryd.underlying177 rfl ty5
instance fa177_5 : FieldAt Tryd.prog 177 5 5 := FieldAt.of (i := 5) Tryd.underlying177 rfl ty5 (by decide)
instance fo177_5 : FieldOf Tryd.prog 177 5 5 false 1 := FieldOf.of (i := 5) Tryd.underlying177 rfl ty5
instance fa177_6 : FieldAt Tryd.prog 177 6 6 := FieldAt.of (i := 6) Tryd.underlying177 rfl ty173 (by decide)
instance fo177_6 : FieldOf Tryd.prog 177 6 6 false 1 := FieldOf.of (i := 6) Tryd.underlying177 rfl ty173
instance fa177_7 : FieldAt Tryd.prog 177 7 7 := FieldAt.of (i := 7) Tryd.underlying177 rfl ty174 (by decide)
instance fo177_7 : FieldOf Tryd.prog 177 7 7 false 1 := FieldOf.of (i := 7) Tryd.underlying177 rfl ty174
instance fa177_8 : FieldAt Tryd.prog 177 8 8 := FieldAt.of (i := 8) Tryd.underlying177 rfl ty126 (by decide)
instance fo177_8 : FieldOf Tryd.prog 177 8 8 false 1 := FieldOf.of (i := 8) Tryd.underlying177 rfl ty126
instance fa177_9 : FieldAt Tryd.prog 177 9 9 := FieldAt.of (i := 9) Tryd.underlying177 rfl ty175 (by decide)
instance fo177_9 : FieldOf Tryd.prog 177 9 9 false 1 := FieldOf.of (i := 9) Tryd.underlying177 rfl ty175
instance fa177_10 : FieldAt Tryd.prog 177 10 10 := FieldAt.of (i := 10) Tryd.underlying177 rfl ty176 (by decide)
instance fo177_10 : FieldOf Tryd.prog 177 10 10 false 1 := FieldOf.of (i := 10) Tryd.underlying177 rfl ty176
instance bt177 : BuildT Tryd.prog 177 [(0, 1), (1, 1), (2, 1), (3, 1), (4, 1), (5, 1), (6, 1), (7, 1), (8, 1), (9, 1), (10, 1)] [Value.int IntKind.u64 0, Value.int IntKind.u64 0, Value.int IntKind.u32 0, Value.int IntKind.u8 0,
          Value.int IntKind.u8 0, Value.int IntKind.u8 0, Value.int IntKind.u8 0, Value.nilFunc, Value.pointer none,
          Value.int IntKind.i32 0, Value.int IntKind.i32 0] := BuildT.of Tryd.underlying177 Tryd.zeroValue177 (fun w => by kernel_rfl) (by decide)
instance fa178_0 : FieldAt Tryd.prog 178 0 0 := FieldAt.of (i := 0) Tryd.underlying178 rfl ty12 (by decide)
instance fo178_0 : FieldOf Tryd.prog 178 0 0 false 1 := FieldOf.of (i := 0) Tryd.underlying178 rfl ty12
instance fa178_1 : FieldAt Tryd.prog 178 1 1 := FieldAt.of (i := 1) Tryd.underlying178 rfl ty12 (by decide)
instance fo178_1 : FieldOf Tryd.prog 178 1 1 false 1 := FieldOf.of (i := 1) Tryd.underlying178 rfl ty12
instance fa178_2 : FieldAt Tryd.prog 178 2 2 := FieldAt.of (i := 2) Tryd.underlying178 rfl ty154 (by decide)
instance fo178_2 : FieldOf Tryd.prog 178 2 2 false 1 := FieldOf.of (i := 2) Tryd.underlying178 rfl ty154
instance fa178_3 : FieldAt Tryd.prog 178 3 3 := FieldAt.of (i := 3) Tryd.underlying178 rfl ty172 (by decide)
instance fo178_3 : FieldOf Tryd.prog 178 3 3 false 1 := FieldOf.of (i := 3) Tryd.underlying178 rfl ty172
instance fa178_4 : FieldAt Tryd.prog 178 4 4 := FieldAt.of (i := 4) Tryd.underlying178 rfl ty5 (by decide)
instance fo178_4 : FieldOf Tryd.prog 178 4 4 false 1 := FieldOf.of (i := 4) Tryd.underlying178 rfl ty5
instance fa178_5 : FieldAt Tryd.prog 178 5 5 := FieldAt.of (i := 5) Tryd.underlying178 rfl ty5 (by decide)
instance fo178_5 : FieldOf Tryd.prog 178 5 5 false 1 := FieldOf.of (i := 5) Tryd.underlying178 rfl ty5
instance fa178_6 : FieldAt Tryd.prog 178 6 6 := FieldAt.of (i := 6) Tryd.underlying178 rfl ty173 (by decide)
instance fo178_6 : FieldOf Tryd.prog 178 6 6 false 1 := FieldOf.of (i := 6) Tryd.underlying178 rfl ty173
instance fa178_7 : FieldAt Tryd.prog 178 7 7 := FieldAt.of (i := 7) Tryd.underlying178 rfl ty174 (by decide)
instance fo178_7 : FieldOf Tryd.prog 178 7 7 false 1 := FieldOf.of (i := 7) Tryd.underlying178 rfl ty174
instance fa178_8 : FieldAt Tryd.prog 178 8 8 := FieldAt.of (i := 8) Tryd.underlying178 rfl ty126 (by decide)
instance fo178_8 : FieldOf Tryd.prog 178 8 8 false 1 := FieldOf.of (i := 8) Tryd.underlying178 rfl ty126
instance fa178_9 : FieldAt Tryd.prog 178 9 9 := FieldAt.of (i := 9) Tryd.underlying178 rfl ty175 (by decide)
instance fo178_9 : FieldOf Tryd.prog 178 9 9 false 1 := FieldOf.of (i := 9) Tryd.underlying178 rfl ty175
instance fa178_10 : FieldAt Tryd.prog 178 10 10 := FieldAt.of (i := 10) Tryd.underlying178 rfl ty176 (by decide)
instance fo178_10 : FieldOf Tryd.prog 178 10 10 false 1 := FieldOf.of (i := 10) Tryd.underlying178 rfl ty176
instance bt178 : BuildT Tryd.prog 178 [(0, 1), (1, 1), (2, 1), (3, 1), (4, 1), (5, 1), (6, 1), (7, 1), (8, 1), (9, 1), (10, 1)] [Value.int IntKind.u64 0, Value.int IntKind.u64 0, Value.int IntKind.u32 0, Value.int IntKind.u8 0,
          Value.int IntKind.u8 0, Value.int IntKind.u8 0, Value.int IntKind.u8 0, Value.nilFunc, Value.pointer none,
          Value.int IntKind.i32 0, Value.int IntKind.i32 0] := BuildT.of Tryd.underlying178 Tryd.zeroValue178 (fun w => by kernel_rfl) (by decide)
instance kk2 : KeyT Tryd.prog 2 (.int .i64) := ⟨Tryd.underlying2⟩
instance kk3 : KeyT Tryd.prog 3 (.int .i64) := ⟨Tryd.underlying3⟩
instance kk4 : KeyT Tryd.prog 4 (.bool) := ⟨Tryd.underlying4⟩
instance kk5 : KeyT Tryd.prog 5 (.int .u8) := ⟨Tryd.underlying5⟩
instance kk6 : KeyT Tryd.prog 6 (.int .u8) := ⟨Tryd.underlying6⟩
instance kk9 : KeyT Tryd.prog 9 (.str) := ⟨Tryd.underlying9⟩
instance kk10 : KeyT Tryd.prog 10 (.str) := ⟨Tryd.underlying10⟩
instance kk11 : KeyT Tryd.prog 11 (.str) := ⟨Tryd.underlying11⟩
instance kk12 : KeyT Tryd.prog 12 (.int .u64) := ⟨Tryd.underlying12⟩
instance kk21 : KeyT Tryd.prog 21 (.int .i32) := ⟨Tryd.underlying21⟩
instance kk32 : KeyT Tryd.prog 32 (.int .i64) := ⟨Tryd.underlying32⟩
instance kk58 : KeyT Tryd.prog 58 (.int .i64) := ⟨Tryd.underlying58⟩
instance kk97 : KeyT Tryd.prog 97 (.int .u64) := ⟨Tryd.underlying97⟩
instance kk114 : KeyT Tryd.prog 114 (.int .i8) := ⟨Tryd.underlying114⟩
instance kk140 : KeyT Tryd.prog 140 (.int .u64) := ⟨Tryd.underlying140⟩
instance kk154 : KeyT Tryd.prog 154 (.int .u32) := ⟨Tryd.underlying154⟩
instance kk172 : KeyT Tryd.prog 172 (.int .u8) := ⟨Tryd.underlying172⟩
instance kk173 : KeyT Tryd.prog 173 (.int .u8) := ⟨Tryd.underlying173⟩
instance kk175 : KeyT Tryd.prog 175 (.int .i32) := ⟨Tryd.underlying175⟩
instance kk176 : KeyT Tryd.prog 176 (.int .i32) := ⟨Tryd.underlying176⟩
instance fe55 : FlatEq Tryd.prog 55 [(0, .bool)] := ⟨by kernel_rfl, by kernel_rfl, _, Tryd.underlying55, flat_cons (by decide) rfl Tryd.underlying4 (flat_nil)⟩
instance fe69 : FlatEq Tryd.prog 69 [(0, .bool)] := ⟨by kernel_rfl, by kernel_rfl, _, Tryd.underlying69, flat_cons (by decide) rfl Tryd.underlying4 (flat_nil)⟩
instance ae78 : ArrEq Tryd.prog 78 8 (.str) := ⟨by kernel_rfl, _, _, Tryd.underlying78, rfl, rfl, Tryd.underlying9⟩
instance ae88 : ArrEq Tryd.prog 88 8 (.int .u8) := ⟨by kernel_rfl, _, _, Tryd.underlying88, rfl, rfl, Tryd.underlying5⟩
instance ae129 : ArrEq Tryd.prog 129 256 (.bool) := ⟨by kernel_rfl, _, _, Tryd.underlying129, rfl, rfl, Tryd.underlying4⟩
instance ae130 : ArrEq Tryd.prog 130 256 (.bool) := ⟨by kernel_rfl, _, _, Tryd.underlying130, rfl, rfl, Tryd.underlying4⟩
instance ae139 : ArrEq Tryd.prog 139 24 (.int .u8) := ⟨by kernel_rfl, _, _, Tryd.underlying139, rfl, rfl, Tryd.underlying5⟩
instance ae153 : ArrEq Tryd.prog 153 20 (.int .u64) := ⟨by kernel_rfl, _, _, Tryd.underlying153, rfl, rfl, Tryd.underlying140⟩
instance ae155 : ArrEq Tryd.prog 155 65 (.int .u8) := ⟨by kernel_rfl, _, _, Tryd.underlying155, rfl, rfl, Tryd.underlying5⟩
instance ae160 : ArrEq Tryd.prog 160 256 (.int .u8) := ⟨by kernel_rfl, _, _, Tryd.underlying160, rfl, rfl, Tryd.underlying5⟩
instance ae164 : ArrEq Tryd.prog 164 32 (.int .u8) := ⟨by kernel_rfl, _, _, Tryd.underlying164, rfl, rfl, Tryd.underlying5⟩
instance ae165 : ArrEq Tryd.prog 165 64 (.int .u8) := ⟨by kernel_rfl, _, _, Tryd.underlying165, rfl, rfl, Tryd.underlying5⟩
instance en2 : Ent Tryd.prog 2 := ⟨Tryd.call2⟩
instance en3 : Ent Tryd.prog 3 := ⟨Tryd.call3⟩
instance en4 : Ent Tryd.prog 4 := ⟨Tryd.call4⟩
instance en5 : Ent Tryd.prog 5 := ⟨Tryd.call5⟩
instance en6 : Ent Tryd.prog 6 := ⟨Tryd.call6⟩
instance en7 : Ent Tryd.prog 7 := ⟨Tryd.call7⟩
instance en8 : Ent Tryd.prog 8 := ⟨Tryd.call8⟩
instance en9 : Ent Tryd.prog 9 := ⟨Tryd.call9⟩
instance en10 : Ent Tryd.prog 10 := ⟨Tryd.call10⟩
instance en11 : Ent Tryd.prog 11 := ⟨Tryd.call11⟩
instance en12 : Ent Tryd.prog 12 := ⟨Tryd.call12⟩
instance en13 : Ent Tryd.prog 13 := ⟨Tryd.call13⟩
instance en14 : Ent Tryd.prog 14 := ⟨Tryd.call14⟩
instance en15 : Ent Tryd.prog 15 := ⟨Tryd.call15⟩
instance en16 : Ent Tryd.prog 16 := ⟨Tryd.call16⟩
instance en17 : Ent Tryd.prog 17 := ⟨Tryd.call17⟩
instance en18 : Ent Tryd.prog 18 := ⟨Tryd.call18⟩
instance en19 : Ent Tryd.prog 19 := ⟨Tryd.call19⟩
instance en20 : Ent Tryd.prog 20 := ⟨Tryd.call20⟩
instance en21 : Ent Tryd.prog 21 := ⟨Tryd.call21⟩
instance en22 : Ent Tryd.prog 22 := ⟨Tryd.call22⟩
instance en23 : Ent Tryd.prog 23 := ⟨Tryd.call23⟩
instance en24 : Ent Tryd.prog 24 := ⟨Tryd.call24⟩
instance en25 : Ent Tryd.prog 25 := ⟨Tryd.call25⟩
instance en26 : Ent Tryd.prog 26 := ⟨Tryd.call26⟩
instance en27 : Ent Tryd.prog 27 := ⟨Tryd.call27⟩
instance en28 : Ent Tryd.prog 28 := ⟨Tryd.call28⟩
instance en29 : Ent Tryd.prog 29 := ⟨Tryd.call29⟩
instance en30 : Ent Tryd.prog 30 := ⟨Tryd.call30⟩
instance en31 : Ent Tryd.prog 31 := ⟨Tryd.call31⟩
instance en32 : Ent Tryd.prog 32 := ⟨Tryd.call32⟩
instance en33 : Ent Tryd.prog 33 := ⟨Tryd.call33⟩
instance en34 : Ent Tryd.prog 34 := ⟨Tryd.call34⟩
instance en35 : Ent Tryd.prog 35 := ⟨Tryd.call35⟩
instance en36 : Ent Tryd.prog 36 := ⟨Tryd.call36⟩
instance en37 : Ent Tryd.prog 37 := ⟨Tryd.call37⟩
instance en38 : Ent Tryd.prog 38 := ⟨Tryd.call38⟩
instance en39 : Ent Tryd.prog 39 := ⟨Tryd.call39⟩
instance en40 : Ent Tryd.prog 40 := ⟨Tryd.call40⟩
instance en41 : Ent Tryd.prog 41 := ⟨Tryd.call41⟩
instance en42 : Ent Tryd.prog 42 := ⟨Tryd.call42⟩
instance en43 : Ent Tryd.prog 43 := ⟨Tryd.call43⟩
instance en44 : Ent Tryd.prog 44 := ⟨Tryd.call44⟩
instance en45 : Ent Tryd.prog 45 := ⟨Tryd.call45⟩
instance en46 : Ent Tryd.prog 46 := ⟨Tryd.call46⟩
instance en47 : Ent Tryd.prog 47 := ⟨Tryd.call47⟩
instance en48 : Ent Tryd.prog 48 := ⟨Tryd.call48⟩
instance en49 : Ent Tryd.prog 49 := ⟨Tryd.call49⟩
instance en50 : Ent Tryd.prog 50 := ⟨Tryd.call50⟩
instance en51 : Ent Tryd.prog 51 := ⟨Tryd.call51⟩
instance en52 : Ent Tryd.prog 52 := ⟨Tryd.call52⟩
instance en53 : Ent Tryd.prog 53 := ⟨Tryd.call53⟩
instance en54 : Ent Tryd.prog 54 := ⟨Tryd.call54⟩
instance en55 : Ent Tryd.prog 55 := ⟨Tryd.call55⟩
instance en56 : Ent Tryd.prog 56 := ⟨Tryd.call56⟩
instance en57 : Ent Tryd.prog 57 := ⟨Tryd.call57⟩
instance en58 : Ent Tryd.prog 58 := ⟨Tryd.call58⟩
instance en59 : Ent Tryd.prog 59 := ⟨Tryd.call59⟩
instance en60 : Ent Tryd.prog 60 := ⟨Tryd.call60⟩
instance en61 : Ent Tryd.prog 61 := ⟨Tryd.call61⟩
instance en62 : Ent Tryd.prog 62 := ⟨Tryd.call62⟩
instance en63 : Ent Tryd.prog 63 := ⟨Tryd.call63⟩
instance en64 : Ent Tryd.prog 64 := ⟨Tryd.call64⟩
instance en65 : Ent Tryd.prog 65 := ⟨Tryd.call65⟩
instance en66 : Ent Tryd.prog 66 := ⟨Tryd.call66⟩
instance en67 : Ent Tryd.prog 67 := ⟨Tryd.call67⟩
instance en68 : Ent Tryd.prog 68 := ⟨Tryd.call68⟩
instance en69 : Ent Tryd.prog 69 := ⟨Tryd.call69⟩
instance en70 : Ent Tryd.prog 70 := ⟨Tryd.call70⟩
instance en71 : Ent Tryd.prog 71 := ⟨Tryd.call71⟩
instance en72 : Ent Tryd.prog 72 := ⟨Tryd.call72⟩
instance en73 : Ent Tryd.prog 73 := ⟨Tryd.call73⟩
instance en74 : Ent Tryd.prog 74 := ⟨Tryd.call74⟩
instance en75 : Ent Tryd.prog 75 := ⟨Tryd.call75⟩
instance en76 : Ent Tryd.prog 76 := ⟨Tryd.call76⟩
instance en77 : Ent Tryd.prog 77 := ⟨Tryd.call77⟩
instance en78 : Ent Tryd.prog 78 := ⟨Tryd.call78⟩
instance en79 : Ent Tryd.prog 79 := ⟨Tryd.call79⟩
instance en80 : Ent Tryd.prog 80 := ⟨Tryd.call80⟩
instance en81 : Ent Tryd.prog 81 := ⟨Tryd.call81⟩
instance en82 : Ent Tryd.prog 82 := ⟨Tryd.call82⟩
instance en83 : Ent Tryd.prog 83 := ⟨Tryd.call83⟩
instance en84 : Ent Tryd.prog 84 := ⟨Tryd.call84⟩
instance en85 : Ent Tryd.prog 85 := ⟨Tryd.call85⟩
instance en86 : Ent Tryd.prog 86 := ⟨Tryd.call86⟩
instance en87 : Ent Tryd.prog 87 := ⟨Tryd.call87⟩
instance en88 : Ent Tryd.prog 88 := ⟨Tryd.call88⟩
instance en89 : Ent Tryd.prog 89 := ⟨Tryd.call89⟩
instance en90 : Ent Tryd.prog 90 := ⟨Tryd.call90⟩
instance en91 : Ent Tryd.prog 91 := ⟨Tryd.call91⟩
instance en92 : Ent Tryd.prog 92 := ⟨Tryd.call92⟩
instance en93 : Ent Tryd.prog 93 := ⟨Tryd.call93⟩
instance en94 : Ent Tryd.prog 94 := ⟨Tryd.call94⟩
instance en95 : Ent Tryd.prog 95 := ⟨Tryd.call95⟩
instance en96 : Ent Tryd.prog 96 := ⟨Tryd.call96⟩
instance en97 : Ent Tryd.prog 97 := ⟨Tryd.call97⟩
instance en98 : Ent Tryd.prog 98 := ⟨Tryd.call98⟩
instance en99 : Ent Tryd.prog 99 := ⟨Tryd.call99⟩
instance en100 : Ent Tryd.prog 100 := ⟨Tryd.call100⟩
instance en101 : Ent Tryd.prog 101 := ⟨Tryd.call101⟩
instance en102 : Ent Tryd.prog 102 := ⟨Tryd.call102⟩
instance en103 : Ent Tryd.prog 103 := ⟨Tryd.call103⟩
instance en104 : Ent Tryd.prog 104 := ⟨Tryd.call104⟩
instance en105 : Ent Tryd.prog 105 := ⟨Tryd.call105⟩
instance en106 : Ent Tryd.prog 106 := ⟨Tryd.call106⟩
instance en107 : Ent Tryd.prog 107 := ⟨Tryd.call107⟩
instance en108 : Ent Tryd.prog 108 := ⟨Tryd.call108⟩
instance en109 : Ent Tryd.prog 109 := ⟨Tryd.call109⟩
instance en110 : Ent Tryd.prog 110 := ⟨Tryd.call110⟩
instance en111 : Ent Tryd.prog 111 := ⟨Tryd.call111⟩
instance en112 : Ent Tryd.prog 112 := ⟨Tryd.call112⟩
instance en113 : Ent Tryd.prog 113 := ⟨Tryd.call113⟩
instance en114 : Ent Tryd.prog 114 := ⟨Tryd.call114⟩
instance en115 : Ent Tryd.prog 115 := ⟨Tryd.call115⟩
instance en116 : Ent Tryd.prog 116 := ⟨Tryd.call116⟩
instance en117 : Ent Tryd.prog 117 := ⟨Tryd.call117⟩
instance en118 : Ent Tryd.prog 118 := ⟨Tryd.call118⟩
instance en119 : Ent Tryd.prog 119 := ⟨Tryd.call119⟩
instance en122 : Ent Tryd.prog 122 := ⟨Tryd.call122⟩
instance en123 : Ent Tryd.prog 123 := ⟨Tryd.call123⟩
instance en124 : Ent Tryd.prog 124 := ⟨Tryd.call124⟩
instance en125 : Ent Tryd.prog 125 := ⟨Tryd.call125⟩
instance en126 : Ent Tryd.prog 126 := ⟨Tryd.call126⟩
instance en127 : Ent Tryd.prog 127 := ⟨Tryd.call127⟩
instance en128 : Ent Tryd.prog 128 := ⟨Tryd.call128⟩
instance en129 : Ent Tryd.prog 129 := ⟨Tryd.call129⟩
instance en130 : Ent Tryd.prog 130 := ⟨Tryd.call130⟩
instance en131 : Ent Tryd.prog 131 := ⟨Tryd.call131⟩
instance en132 : Ent Tryd.prog 132 := ⟨Tryd.call132⟩
instance en133 : Ent Tryd.prog 133 := ⟨Tryd.call133⟩
instance en134 : Ent Tryd.prog 134 := ⟨Tryd.call134⟩
instance en135 : Ent Tryd.prog 135 := ⟨Tryd.call135⟩
instance en136 : Ent Tryd.prog 136 := ⟨Tryd.call136⟩
instance en137 : Ent Tryd.prog 137 := ⟨Tryd.call137⟩
instance en162 : Ent Tryd.prog 162 := ⟨Tryd.call162⟩
end Go.Proofs.YtepmllodaoanmaaDoor
